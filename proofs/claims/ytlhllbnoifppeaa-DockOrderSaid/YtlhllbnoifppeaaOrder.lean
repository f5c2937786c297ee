/- The walk of DockOrder. -/
import Derived.Test.YtlhllbnoifppeaaOrderLaw
namespace Go.Proofs.Ytlhllbnoifppeaa
namespace Dk
open Go.RowKit
set_option maxHeartbeats 4000000
set_option maxRecDepth 100000

def OrdRel (w : World) (b0 pd g cap n room : Nat) (ch : List Nat) (len : Nat) (vin vlo vi : Value) (wr : World) : Prop :=
  ∃ (i inn lost : Nat) (R : Nat → List Int) (V : Nat → Value) (X : Nat → Prop) (cur : Array Value), i ≤ len ∧ vi = .int .i64 i ∧ vin = .int .i64 inn ∧ vlo = .int .i64 lost ∧ inn + lost = i ∧ OrdAt w b0 pd g cap n room ch inn lost R V X cur wr

def DrainRel (w : World) (b0 pd g cap n room : Nat) (ch : List Nat) (inn lost : Nat) (v : Value) (wr : World) : Prop :=
  ∃ (i left : Nat) (R : Nat → List Int) (V : Nat → Value) (m : Nat) (cur : Array Value), v = .int .i64 i ∧ i + left = inn ∧ m ≤ 8 ∧ DrainAt w b0 pd g cap n room ch left lost R V m cur wr

theorem drain_take {w wr : World} {b0 pd g cap n room left lost : Nat} {ch : List Nat} {R : Nat → List Int} {V : Nat → Value} {m : Nat} {cur : Array Value} (h : DrainAt w b0 pd g cap n room ch (left + 1) lost R V m cur wr) (hn1 : 1 ≤ n) (hn8 : n ≤ 8) (hm : m ≤ 8) :
    Calls Try.prog 10 #[.pointer (some ⟨pd, 0, none⟩)] wr fun e w3 => ∃ (q : Nat) (x : Int) (rest : List Int) (v : Value) (m' : Nat), q < n ∧ R q = x :: rest ∧ (0 < q → R 0 = []) ∧ e = .returned (.tuple #[.int .i64 q, v, .bool true]) ∧
      Own5 (fun k => Old w.heap.size k ∨ k = b0) w3 v [x] ∧ Five wr w3 ∧ Same (fun k => Old w.heap.size k ∨ k = b0) wr w3 ∧ m' ≤ 8 ∧ Rep (fun k => Old w.heap.size k ∨ k = b0) w3 pd g cap ch room (lanesOf (setAt R q rest) n) (m' + 1) lost := by
  cases h0 : R 0 with
  | cons x rest =>
    have hl : (lanesOf R n)[0]? = some ([x] :: ones rest) := by rw [lanesOf_at R (by omega), h0]; rfl
    refine (take_zero h.rep hl).mono ?_
    rintro e w3 ⟨v, rfl, o3, f3, s3, r3⟩
    rw [lanesOf_set] at r3
    exact ⟨0, x, rest, v, m, by omega, h0, fun h => by omega, rfl, o3, f3, s3, hm, r3⟩
  | nil =>
    have hl : (lanesOf R n)[0]? = some [] := by rw [lanesOf_at R (by omega), h0]; rfl
    refine (take_other h.rep hl (by omega) (by rw [lanesOf_len]; exact hn8)).mono ?_
    rintro e w3 ⟨⟨f3, s3⟩, ⟨k, b', l, v, hk, _, hl, rfl, o3, r3⟩ | ⟨hall, rfl, r3⟩⟩
    · rw [lanesOf_len] at hk hl r3 ⊢
      have hlk := (look_lt (n := n) (m := m) (j := k) (by omega)).2
      rw [lanesOf_at R hlk] at hl
      cases hR : R (look n m k) with
      | nil => rw [hR] at hl; cases hl
      | cons x rest =>
        rw [hR] at hl
        have e1 : [x] = b' ∧ ones rest = l := by
          have := Option.some.inj hl
          exact List.cons.inj this
        obtain ⟨rfl, rfl⟩ := e1
        rw [lanesOf_set] at r3
        exact ⟨look n m k, x, rest, v, look n m k, hlk, hR, fun _ => rfl, rfl, o3, f3, s3, by omega, r3⟩
    · exfalso
      have hz : ∀ p, p < n → R p = [] := fun p hp => by
        by_cases hp0 : p = 0
        · rw [hp0]; exact h0
        · obtain ⟨j, hj, rfl⟩ := look_onto (n := n) (m := m) (p := p) (by omega) (by omega) hp
          have := hall j (by rw [lanesOf_len]; exact hj)
          rw [lanesOf_len, lanesOf_at R hp] at this
          have e := Option.some.inj this
          unfold ones at e
          exact List.map_eq_nil_iff.1 e
      have hc : ∀ n', n' ≤ n → cnt R n' = 0 := by
        intro n'
        induction n' with
        | zero => intro _; rfl
        | succ k ih => intro hk; unfold cnt; rw [ih (by omega), hz k (by omega)]; rfl
      have := h.cnt
      rw [hc n (Nat.le_refl _)] at this
      omega

theorem order_any (w : World) (a b : Int) (ha : 0 ≤ a) (hb : 0 ≤ b) (A : Option Addr) (bs : List Int) (c : Nat) (hbl : bs.length ≤ 9223372036854775807) (hs : Src w A bs) (hbs : ∀ x ∈ bs, 0 ≤ x ∧ x ≤ 255) :
    Calls Try.prog 5 #[.int .u8 a, .int .u8 b, .slice A bs.length c] w fun e w' => e = .returned (.bool true) ∧ Below w.heap.size w w' := by
  have H3 := Lib.hid (runs_any w)
  have Hs := Lib.hid hs; have Hbs := Lib.hid hbs
  clear hs hbs
  by_cases h2 : 60 < bs.length
  · go_enter Try.func5, Try.ntmps5
    go_wp2_with fail
    refine H3.out.mono ?_
    rintro e w1 ⟨rfl, hb⟩
    have Hb := Lib.hid hb; clear hb
    go_wp2_with fail
    go_ret
    exact ⟨rfl, Hb.out⟩
  · clear H3
    have e1 : a.tmod 8 = a % 8 := Int.tmod_eq_emod_of_nonneg ha
    have e2 : (0 : Int) ≤ a % 8 := Int.emod_nonneg _ (by decide)
    have e3 : a % 8 < 8 := Int.emod_lt_of_pos _ (by decide)
    have e4 : b.tmod 8 = b % 8 := Int.tmod_eq_emod_of_nonneg hb
    have e5 : (0 : Int) ≤ b % 8 := Int.emod_nonneg _ (by decide)
    have e6 : b % 8 < 8 := Int.emod_lt_of_pos _ (by decide)
    obtain ⟨n, hn⟩ : ∃ n : Nat, a % 8 + 1 = n := ⟨(a % 8 + 1).toNat, by omega⟩
    obtain ⟨room, hr⟩ : ∃ n : Nat, b % 8 + 1 = n := ⟨(b % 8 + 1).toNat, by omega⟩
    have hn1 : 1 ≤ n := by omega
    have hn8 : n ≤ 8 := by omega
    have hr1 : 1 ≤ room := by omega
    have hr8 : room ≤ 8 := by omega
    have Hn := Lib.hid hn
    go_enter Try.func5, Try.ntmps5
    go_wp2_with fail
    refine (new_any w n room).mono ?_
    rintro e w1 ⟨g, cap, ch, rfl, hb1, hR1⟩
    have hh1 : held (n : Int) = n := by unfold held; omega
    have hh2 : held (room : Int) = room := by unfold held; omega
    rw [hh1, hh2] at hR1
    have HR := Lib.hid hR1; have HB := Lib.hid hb1
    clear hR1 hb1 e1 e2 e3 e4 e5 e6 hn hr
    go_wp2_with fail
    obtain ⟨b0, hb0⟩ : ∃ b0, w1.heap.size = b0 := ⟨_, rfl⟩
    have rel1 : OrdRel w b0 w.heap.size g cap n room ch bs.length (.int .i64 0) (.int .i64 0) (.int .i64 0)
        (w1.alloc (.cells #[.slice none 0 0, .slice none 0 0, .slice none 0 0, .slice none 0 0, .slice none 0 0, .slice none 0 0, .slice none 0 0, .slice none 0 0] 41)) := by
      refine ⟨0, 0, 0, fun _ => [], fun _ => .slice none 0 0, fun k => Old w.heap.size k ∨ k = b0, #[.slice none 0 0, .slice none 0 0, .slice none 0 0, .slice none 0 0, .slice none 0 0, .slice none 0 0, .slice none 0 0, .slice none 0 0], by omega, rfl, rfl, rfl, rfl, ⟨?_, cnt_nil n, ?_, fun k hk => .inl hk, .inr rfl, ?_, ?_, ?_, ?_, fun p hp => World.ownsRow_nil _ _ _ _, fun p k hp hk => ?_, fun p p' k hp hp' hpp hk => ?_⟩⟩
      · rw [← lanesOf_nil]
        refine ((HR.out _ (fun k hk => hk)).more (fun k hk hy => ?_)).alloc _
        rcases hy with h | h
        · exact h
        · omega
      · rintro k (hk | hk)
        · have h1 : k < w.heap.size := hk
          have := HB.out.size
          rw [size_al]; omega
        · rw [size_al]; omega
      · have := HB.out.size; omega
      · exact (Same.of_below HB.out).trans (Same.of_below ((Below.refl _ _).alloc (Nat.le_refl _) _))
      · rw [← hb0]; exact heap_alloc_new _ _
      · intro p hp
        have h8 : p = 0 ∨ p = 1 ∨ p = 2 ∨ p = 3 ∨ p = 4 ∨ p = 5 ∨ p = 6 ∨ p = 7 := by omega
        rcases h8 with rfl | rfl | rfl | rfl | rfl | rfl | rfl | rfl <;> rfl
      · simp [Value.ownBlock] at hk
      · simp [Value.ownBlock] at hk
    rw [hb0]
    have H1 := Lib.hid rel1
    clear rel1 HR HB hb0
    go_loopw [11, 12, 13] (fun vin vlo vi wr => OrdRel w b0 w.heap.size g cap n room ch bs.length vin vlo vi wr) (fun _ _ vi _ => bs.length - (intOf vi).toNat)
    case atStart => exact H1.out
    case round =>
      clear H1
      obtain ⟨i, inn, lost, R, V, X, cur, hi, rfl, rfl, rfl, hil, hO⟩ := hrel
      by_cases hlt : i < bs.length
      · obtain ⟨ad, rfl⟩ : ∃ ad, A = some ad := by
          obtain ⟨ad, h, _⟩ := Hs.out (by omega)
          exact ⟨ad, h⟩
        have hsr : Src wr (some ad) bs := fun hp => by
          obtain ⟨ad', e, hl, hc⟩ := Hs.out hp
          refine ⟨ad', e, Nat.lt_of_lt_of_le hl hO.same.size, fun j v hv => ?_⟩
          rw [← hc j v hv]
          exact (hO.same.below (B := w.heap.size) (Nat.le_refl _) (fun k hk => hk)).cell (p := ad'.add j) (by rw [add_block]; exact hl)
        obtain ⟨x, hx⟩ : ∃ x, bs[i]? = some x := ⟨_, List.getElem?_eq_getElem hlt⟩
        have hxr := Hbs.out x (List.mem_of_getElem? hx)
        have ci : wr.cell? (ad.add i) = some (.int .u8 x) := by
          obtain ⟨ad', e, hl, hc⟩ := hsr (by omega)
          obtain rfl := Option.some.inj e
          exact hc i _ (by rw [List.getElem?_map, hx]; rfl)
        have q0 : (n : Int) ≠ 0 := by omega
        have e1 : x.tmod (n : Int) = x % n := Int.tmod_eq_emod_of_nonneg hxr.1
        have e2 : (0 : Int) ≤ x % (n : Int) := Int.emod_nonneg _ q0
        have e3 : x % (n : Int) < n := Int.emod_lt_of_pos _ (by omega)
        obtain ⟨q, hq⟩ : ∃ q : Nat, x % (n : Int) = q := ⟨(x % (n : Int)).toNat, by omega⟩
        have hqn : q < n := by omega
        have HO := Lib.hid hO
        clear hO hsr
        go_wp2_with fail
        clear e1 e2 e3 hq
        refine (put_in X _ w.heap.size g cap ch room _ 1 lost (HO.out.rep.alloc _) (fun j hj => by rw [size_al]; exact Nat.lt_succ_of_lt (HO.out.lt j hj)) q (some ⟨wr.heap.size, 0, none⟩) 1 [(i : Int)] (by rw [lanesOf_len]; exact hqn) (by simp) (src_new wr [(i : Int)] (0, 0)) (by omega) (by omega)).mono ?_
        rintro e w2 ⟨rfl, s2, r2⟩
        rw [lanesOf_getD R hqn, ones_len] at r2 ⊢
        rw [laneIn_lanes R _ hqn] at r2
        have s2' : Same X wr w2 := (Same.of_below ((Below.refl _ _).alloc (Nat.le_refl _) _)).trans s2
        obtain ⟨A', c', hV, _, _⟩ := Row.of_own (HO.out.own q (by omega))
        have hb2 := (s2'.block b0 (HO.out.lt _ HO.out.b0x) HO.out.b0x).trans HO.out.blk
        have c2 := cell_of_row w2 b0 q _ _ _ hb2
        rw [HO.out.cells q (by omega), hV] at c2
        have hq8 : (q : Int) < 8 := by omega
        by_cases hroom : (R q).length < room
        · rw [if_pos hroom, if_pos hroom] at r2
          rw [decide_eq_true hroom]
          have hd : decide (((R q).length : Int) < room) = true := by simp; omega
          have hown3 : (w2.alloc (.cells #[.int .u8 i] 5)).ownsRow (b0 + 1) 5 1 (V q) (R q).length (mapB (R q)) := (own_keep (HO.out.own q (by omega)) (fun k hk => s2'.block k (HO.out.lt k (HO.out.own_x q k (by omega) hk)) (HO.out.own_x q k (by omega) hk))).alloc _
          have hbl0 := (Array.getElem?_eq_some_iff.1 hb2).1
          obtain ⟨v', w4, hr, ho, hg, hvn⟩ := append_at (w2.alloc (.cells #[.int .u8 i] 5)) (b0 + 1) (V q) (R q).length _ hown3 ⟨w2.heap.size, 0, none⟩ [(i : Int)] 1 (src_new w2 [(i : Int)] (0, 0)) (by simp; omega) (by rw [size_al]; omega)
          have hO4 := HO.out.room s2' hn8 hqn r2 _ ho hg hvn
          obtain ⟨g2, cap2, rfl, hg2⟩ := owns_some ho (by simp)
          have hqb : (V q).ownBlock ≠ some b0 := fun e => by
            have := ((HO.out.own q (by omega)).lt b0 e).1
            omega
          have hb4 : w4.heap[b0]? = some (.cells cur 41 (0, 0)) := (hg.block b0 (by rw [size_al]; omega) (fun e => hqb e.symm)).trans ((Below.heap_alloc w2 _ b0 hbl0).trans hb2)
          have c4 := cell_of_row w4 b0 q _ _ _ hb4
          have f4 := frozen_of_row w4 b0 q _ _ hb4
          rw [HO.out.cells q (by omega), hV] at c4
          rw [hV] at hr
          have H4 := Lib.hid hO4
          clear r2 s2 s2' hb2 hb4 ho hg hvn hown3 hO4
          go_wp2_with (at_builtin; refine wpList_append_run (o := ⟨some 75, .call { callee := .builtin .append, args := #[.tmp 71, .tmp 74], argTypes := #[25, 25] }, _, _, _, _⟩) rfl _ _ 25 rfl _ _ _ w4 ?hs1 ?hx1 hr ?hk1; (case hs1 => rfl); (case hx1 => rfl))
          exact ⟨⟨i + 1, inn + 1, lost, _, _, _, _, by omega, by simp, by simp, rfl, by omega, H4.out⟩, by simp [intOf]; omega⟩
        · rw [if_neg hroom, if_neg hroom] at r2
          rw [decide_eq_false hroom]
          have hd : decide (((R q).length : Int) < room) = false := by simp; omega
          have r2' : Rep X w2 w.heap.size g cap ch room (lanesOf R n) 1 (lost + 1 : Nat) := by
            have e : ((lost + 1 : Nat) : Int) = (lost : Int) + 1 := by omega
            rw [e]; exact r2
          have HF := Lib.hid (HO.out.full s2' r2' rfl)
          clear r2 s2 s2' r2' hb2
          go_wp2_with fail
          exact ⟨⟨i + 1, inn, lost + 1, R, V, X, cur, by omega, by simp, rfl, by simp, by omega, HF.out⟩, by simp [intOf]; omega⟩
      · have D := Lib.hid hO.drain
        have hib : inn ≤ 60 := by omega
        clear hO
        go_wp2_with fail
        go_loopw [16] (fun v wr => DrainRel w b0 w.heap.size g cap n room ch inn lost v wr) (fun v _ => inn - (intOf v).toNat)
        case atStart => exact ⟨0, inn, R, V, 0, cur, rfl, by omega, by omega, D.out⟩
        case round =>
          clear D
          obtain ⟨j, left, R2, V2, m, cur2, rfl, hjl, hm, hD⟩ := hrel
          by_cases hlt2 : j < inn
          · obtain ⟨left', rfl⟩ : ∃ l, left = l + 1 := ⟨left - 1, by omega⟩
            have HD := Lib.hid hD
            clear hD
            go_wp2_with fail
            refine (drain_take HD.out hn1 hn8 hm).mono ?_
            rintro e w3 ⟨q, x, rest, v, m', hqn, hRq, hR0, rfl, o3, f3, s3, hm', r3⟩
            obtain ⟨A1, c1, rfl, h1⟩ := o3
            obtain ⟨g1, o1, cu1, fr1, rfl, _, hg1, hc1⟩ := h1 (by simp)
            have row3 : ∀ p, p < 8 → Row w3 (V2 p) (R2 p) := fun p hp => (HD.out.rows p hp).five f3
            obtain ⟨A2, c2, hV2, hc2, h2'⟩ := row3 q (by omega)
            rw [hRq] at hV2 hc2 h2'
            obtain ⟨g2, o2, cu2, fr2, rfl, hg2, hcc2⟩ := h2' (by simp)
            obtain ⟨A0, c0, hV0, _, _⟩ := row3 0 (by omega)
            have hb3 : w3.heap[b0]? = some (.cells cur2 41 (0, 0)) := (s3.block b0 ((Array.getElem?_eq_some_iff.1 HD.out.blk).1) (.inr rfl)).trans HD.out.blk
            have cq := cell_of_row w3 b0 q _ _ _ hb3
            rw [HD.out.cells q (by omega), hV2] at cq
            have c0' := cell_of_row w3 b0 0 _ _ _ hb3
            rw [HD.out.cells 0 (by omega), hV0] at c0'
            have cx1 := cell_of_row w3 g1 o1 _ _ _ hg1
            rw [show cu1[o1]? = some (.int .u8 x) from hc1 0 _ rfl] at cx1
            have cx2 := cell_of_row w3 g2 o2 _ _ _ hg2
            rw [show cu2[o2]? = some (.int .u8 x) from hcc2 0 _ rfl] at cx2
            have fq := frozen_of_row w3 b0 q _ _ hb3
            have hq8 : (q : Int) < 8 := by omega
            have hq0 : decide ((q : Int) < 0) = false := by simp
            have hqn' : decide ((n : Int) ≤ q) = false := by simp; omega
            have hrow2 : Row w3 (.slice (some ⟨g2, o2 + 1, none⟩) rest.length (c2 - 1)) rest := by
              refine ⟨_, _, rfl, by simp at hc2; omega, fun _ => ⟨g2, o2 + 1, cu2, fr2, rfl, hg2, fun j u hu => ?_⟩⟩
              have := hcc2 (j + 1) u hu
              rw [← this]; congr 1; omega
            have hrow1 : c2 = 1 → Row w3 (.slice (some ⟨g2, o2, none⟩) rest.length 0) rest := fun e => by
              have h0 : rest.length = 0 := by simp at hc2; omega
              exact ⟨_, _, rfl, by omega, fun hp => by omega⟩
            have hstep : ∀ v', Row w3 v' rest → ∀ N, DrainAt w b0 w.heap.size g cap n room ch left' lost (setAt R2 q rest) (setAt V2 q v') m' (cur2.setIfInBounds q v') ((w3.drewN N).setCell ⟨b0, q, none⟩ v') := fun v' hv N => HD.out.step hn8 hqn hRq f3 s3 r3 hv N
            have HS := Lib.hid hstep; have HW2 := Lib.hid hrow2; have HW1 := Lib.hid hrow1; have HR3 := Lib.hid r3; have HR0 := Lib.hid hR0
            rw [List.length_cons] at cq hV2
            clear h1 hc1 h2' hcc2 row3 hstep hrow2 hrow1 r3 f3 s3 hb3 hg1 hg2 HD hV0 hV2 hR0 hRq
            have k1 : (((rest.length + 1 : Nat) : Int) == 0) = false := by simp; omega
            have k2 : ((rest.length : Int) + 1 == 0) = false := by simp; omega
            have k3 : (0 : Int) < ((rest.length + 1 : Nat) : Int) := by omega
            have k4 : (0 : Int) < (rest.length : Int) + 1 := by omega
            rw [show [x].length = 1 from rfl]
            by_cases hz : q = 0
            · subst hz
              clear c0'
              have d0 : decide ((n : Int) ≤ 0) = false := by simp; omega
              have d0' : decide (n ≤ 0) = false := by simp; omega
              have d0n : decide (n = 0) = false := by simp; omega
              go_wp2_with fail
              go_quiet (fail)
              by_cases hc : c2 = 1
              · subst hc
                go_wp2_with fail
                have hD4 := HS.out (.slice (some ⟨g2, o2, none⟩) rest.length 0) (HW1.out (by first | rfl | trivial)) nq
                obtain ⟨W, hW⟩ : ∃ W, W = (w3.drewN nq).setCell ⟨b0, 0, none⟩ (.slice (some ⟨g2, o2, none⟩) rest.length 0) := ⟨_, rfl⟩
                rw [← hW] at hD4 ⊢
                have cW := cell_of_row W b0 0 _ _ _ hD4.blk
                rw [hD4.cells 0 (by omega), setAt_self] at cW
                have hlen : ∀ N', Calls Try.prog 11 #[.pointer (some ⟨w.heap.size, 0, none⟩), .int .i64 (0 : Int)] (W.drewN N') fun e w' => e = .returned (.int .i64 rest.length) ∧ ∃ M, w' = W.drewN M := fun N' => by
                  refine (len_any (hD4.rep.keep (w' := W.drewN N') (fun _ _ _ => rfl)) (0 : Int)).mono ?_
                  rintro e w' ⟨rfl, rfl⟩
                  refine ⟨?_, N', rfl⟩
                  rw [if_pos (by omega)]
                  have := lanesOf_getD (setAt R2 0 rest) hqn
                  rw [setAt_self] at this
                  rw [show (((0 : Int) : Int)).toNat = 0 by omega, this, ones_len]
                have Hlen := Lib.hid hlen; have H4 := Lib.hid hD4
                clear hlen hD4 hW
                go_quiet ((go_at_call 11; with_reducible exact Hlen.out _))
                go_wp2_with fail
                exact ⟨⟨j + 1, left', _, _, m', _, by simp, by omega, hm', ⟨H4.out.rep.keep (fun _ _ _ => rfl), H4.out.cnt, H4.out.wb, H4.out.same.trans ⟨rfl, rfl, rfl, Nat.le_refl _, fun _ _ _ => rfl⟩, H4.out.blk, H4.out.cells, fun p hp => (H4.out.rows p hp).five (fun _ _ _ _ => rfl)⟩⟩, by simp [intOf]; omega⟩
              · have hc' : ¬ c2 - 1 = 0 := by simp at hc2; omega
                go_wp2_with fail
                have hD4 := HS.out (.slice (some ⟨g2, o2 + 1, none⟩) rest.length (c2 - 1)) HW2.out nq
                obtain ⟨W, hW⟩ : ∃ W, W = (w3.drewN nq).setCell ⟨b0, 0, none⟩ (.slice (some ⟨g2, o2 + 1, none⟩) rest.length (c2 - 1)) := ⟨_, rfl⟩
                rw [← hW] at hD4 ⊢
                have cW := cell_of_row W b0 0 _ _ _ hD4.blk
                rw [hD4.cells 0 (by omega), setAt_self] at cW
                have hlen : ∀ N', Calls Try.prog 11 #[.pointer (some ⟨w.heap.size, 0, none⟩), .int .i64 (0 : Int)] (W.drewN N') fun e w' => e = .returned (.int .i64 rest.length) ∧ ∃ M, w' = W.drewN M := fun N' => by
                  refine (len_any (hD4.rep.keep (w' := W.drewN N') (fun _ _ _ => rfl)) (0 : Int)).mono ?_
                  rintro e w' ⟨rfl, rfl⟩
                  refine ⟨?_, N', rfl⟩
                  rw [if_pos (by omega)]
                  have := lanesOf_getD (setAt R2 0 rest) hqn
                  rw [setAt_self] at this
                  rw [show (((0 : Int) : Int)).toNat = 0 by omega, this, ones_len]
                have Hlen := Lib.hid hlen; have H4 := Lib.hid hD4
                clear hlen hD4 hW
                go_quiet ((go_at_call 11; with_reducible exact Hlen.out _))
                go_wp2_with fail
                exact ⟨⟨j + 1, left', _, _, m', _, by simp, by omega, hm', ⟨H4.out.rep.keep (fun _ _ _ => rfl), H4.out.cnt, H4.out.wb, H4.out.same.trans ⟨rfl, rfl, rfl, Nat.le_refl _, fun _ _ _ => rfl⟩, H4.out.blk, H4.out.cells, fun p hp => (H4.out.rows p hp).five (fun _ _ _ _ => rfl)⟩⟩, by simp [intOf]; omega⟩
            · have d0 : decide ((0 : Int) < q) = true := by simp; omega
              have d0' : decide (0 < q) = true := by simp; omega
              have hz0 : (R2 0).length = 0 := by rw [HR0.out (by omega)]; rfl
              rw [hz0] at c0'
              go_wp2_with fail
              go_quiet (fail)
              by_cases hc : c2 = 1
              · subst hc
                go_wp2_with fail
                have hD4 := HS.out (.slice (some ⟨g2, o2, none⟩) rest.length 0) (HW1.out (by first | rfl | trivial)) nq
                obtain ⟨W, hW⟩ : ∃ W, W = (w3.drewN nq).setCell ⟨b0, q, none⟩ (.slice (some ⟨g2, o2, none⟩) rest.length 0) := ⟨_, rfl⟩
                rw [← hW] at hD4 ⊢
                have cW := cell_of_row W b0 q _ _ _ hD4.blk
                rw [hD4.cells q (by omega), setAt_self] at cW
                have hlen : ∀ N', Calls Try.prog 11 #[.pointer (some ⟨w.heap.size, 0, none⟩), .int .i64 (q : Int)] (W.drewN N') fun e w' => e = .returned (.int .i64 rest.length) ∧ ∃ M, w' = W.drewN M := fun N' => by
                  refine (len_any (hD4.rep.keep (w' := W.drewN N') (fun _ _ _ => rfl)) (q : Int)).mono ?_
                  rintro e w' ⟨rfl, rfl⟩
                  refine ⟨?_, N', rfl⟩
                  rw [if_pos (by omega)]
                  have := lanesOf_getD (setAt R2 q rest) hqn
                  rw [setAt_self] at this
                  rw [show (((q : Int) : Int)).toNat = q by omega, this, ones_len]
                have Hlen := Lib.hid hlen; have H4 := Lib.hid hD4
                clear hlen hD4 hW
                go_quiet ((go_at_call 11; with_reducible exact Hlen.out _))
                go_wp2_with fail
                exact ⟨⟨j + 1, left', _, _, m', _, by simp, by omega, hm', ⟨H4.out.rep.keep (fun _ _ _ => rfl), H4.out.cnt, H4.out.wb, H4.out.same.trans ⟨rfl, rfl, rfl, Nat.le_refl _, fun _ _ _ => rfl⟩, H4.out.blk, H4.out.cells, fun p hp => (H4.out.rows p hp).five (fun _ _ _ _ => rfl)⟩⟩, by simp [intOf]; omega⟩
              · have hc' : ¬ c2 - 1 = 0 := by simp at hc2; omega
                go_wp2_with fail
                have hD4 := HS.out (.slice (some ⟨g2, o2 + 1, none⟩) rest.length (c2 - 1)) HW2.out nq
                obtain ⟨W, hW⟩ : ∃ W, W = (w3.drewN nq).setCell ⟨b0, q, none⟩ (.slice (some ⟨g2, o2 + 1, none⟩) rest.length (c2 - 1)) := ⟨_, rfl⟩
                rw [← hW] at hD4 ⊢
                have cW := cell_of_row W b0 q _ _ _ hD4.blk
                rw [hD4.cells q (by omega), setAt_self] at cW
                have hlen : ∀ N', Calls Try.prog 11 #[.pointer (some ⟨w.heap.size, 0, none⟩), .int .i64 (q : Int)] (W.drewN N') fun e w' => e = .returned (.int .i64 rest.length) ∧ ∃ M, w' = W.drewN M := fun N' => by
                  refine (len_any (hD4.rep.keep (w' := W.drewN N') (fun _ _ _ => rfl)) (q : Int)).mono ?_
                  rintro e w' ⟨rfl, rfl⟩
                  refine ⟨?_, N', rfl⟩
                  rw [if_pos (by omega)]
                  have := lanesOf_getD (setAt R2 q rest) hqn
                  rw [setAt_self] at this
                  rw [show (((q : Int) : Int)).toNat = q by omega, this, ones_len]
                have Hlen := Lib.hid hlen; have H4 := Lib.hid hD4
                clear hlen hD4 hW
                go_quiet ((go_at_call 11; with_reducible exact Hlen.out _))
                go_wp2_with fail
                exact ⟨⟨j + 1, left', _, _, m', _, by simp, by omega, hm', ⟨H4.out.rep.keep (fun _ _ _ => rfl), H4.out.cnt, H4.out.wb, H4.out.same.trans ⟨rfl, rfl, rfl, Nat.le_refl _, fun _ _ _ => rfl⟩, H4.out.blk, H4.out.cells, fun p hp => (H4.out.rows p hp).five (fun _ _ _ _ => rfl)⟩⟩, by simp [intOf]; omega⟩
          · obtain rfl : left = 0 := by omega
            have hall := cnt_zero hD.cnt
            have HD := Lib.hid hD
            clear hD
            go_wp2_with fail
            have h0 : (lanesOf R2 n)[0]? = some [] := by rw [lanesOf_at R2 (by omega), hall 0 (by omega)]; rfl
            refine (take_other HD.out.rep h0 (by omega) (by rw [lanesOf_len]; exact hn8)).mono ?_
            rintro e w3 ⟨⟨f3, s3⟩, ⟨k, b', l, v, hk, _, hl, rfl, o3, r3⟩ | ⟨_, rfl, r3⟩⟩
            · exfalso
              rw [lanesOf_len] at hk hl
              have hlk := (look_lt (n := n) (m := m) (j := k) (by omega)).2
              rw [lanesOf_at R2 hlk, hall _ hlk] at hl
              cases hl
            · have H4 := Lib.hid (HD.out.same.trans (s3.mono fun k hk => .inl hk)); have R4 := Lib.hid r3
              clear f3 s3 r3
              go_wp2_with fail
              refine (lost_any R4.out).mono ?_
              rintro e w8 ⟨rfl, rfl⟩
              go_wp2_with fail
              refine (runs_any w8).mono ?_
              rintro e w9 ⟨rfl, hb9⟩
              have H9 := Lib.hid hb9; clear hb9
              go_wp2_with fail
              go_ret
              exact ⟨rfl, (H4.out.below (Nat.le_refl _) (fun k hk => hk)).trans (H9.out.mono H4.out.size)⟩
end Dk
end Go.Proofs.Ytlhllbnoifppeaa
