/- The walk of DockFair. -/
import Derived.Test.YtlhllbnoifppeaaRuns
import Derived.Test.YtlhllbnoifppeaaFairLaw
import Derived.BigQuiet
namespace Go.Proofs.Ytlhllbnoifppeaa
namespace Dk
open Go.RowKit
set_option maxHeartbeats 4000000
set_option maxRecDepth 100000

/-- What Put leaves in the lanes; what it leaves lost. -/
def laneIn (room : Nat) (L : List (List (List Int))) (i : Nat) (bs : List Int) : List (List (List Int)) := if (L.getD i []).length < room then L.set i (L.getD i [] ++ [bs]) else L
theorem put_in (X : Nat → Prop) (w : World) (pd g cap : Nat) (ch : List Nat) (room : Nat) (L : List (List (List Int))) (nx lo : Int) (h : Rep X w pd g cap ch room L nx lo) (hX : ∀ k, X k → k < w.heap.size) (i : Nat) (A : Option Addr) (c : Nat) (bs : List Int)
    (hi : i < L.length) (hlen : bs.length ≤ 1099511627776) (hs : Src w A bs) (hlo : -1 ≤ lo) (hlo2 : lo < 1000000) :
    Calls Try.prog 9 #[.pointer (some ⟨pd, 0, none⟩), .int .i64 i, .slice A bs.length c] w fun e w' => e = .returned (.bool (decide ((L.getD i []).length < room))) ∧ Same X w w' ∧ Rep X w' pd g cap ch room (laneIn room L i bs) nx (if (L.getD i []).length < room then lo else lo + 1) := by
  have hl : L[i]? = some (L.getD i []) := by rw [List.getElem?_eq_getElem hi, List.getD_eq_getElem?_getD, List.getElem?_eq_getElem hi]; rfl
  unfold laneIn
  by_cases hf : (L.getD i []).length < room
  · rw [decide_eq_true hf, if_pos hf, if_pos hf]
    exact put_room X w pd g cap ch room L nx lo h hX i A c bs _ hl hf hlen hs
  · rw [decide_eq_false hf, if_neg hf, if_neg hf]
    exact put_full X w pd g cap ch room L nx lo h hX i A c bs _ hl (by omega) hlen hs hlo hlo2
theorem drewN_drewN (w : World) (a b : Nat) : (w.drewN a).drewN b = w.drewN (a + b) := by simp [World.drewN, Nat.add_assoc]
/-- While the lanes are filled. -/
def FillRel (w : World) (pd g cap n : Nat) (ch : List Nat) (len : Nat) (v : Value) (wr : World) : Prop :=
  ∃ (i : Nat) (L : List (List (List Int))) (lo : Int), i ≤ len ∧ v = .int .i64 i ∧ L.length = n ∧ L[0]? = some [] ∧ 0 ≤ lo ∧ lo ≤ i ∧ Rep (Old w.heap.size) wr pd g cap ch 8 L 1 lo ∧ Same (Old w.heap.size) w wr

/-- While the lanes are taken from: S in block b0. -/
def FairRel (w : World) (b0 pd g cap n : Nat) (ch : List Nat) (v : Value) (wr : World) : Prop :=
  ∃ (i m : Nat) (L : List (List (List Int))) (lo : Int) (S : Nat → Nat), 1 ≤ i ∧ i ≤ 61 ∧ v = .int .i64 i ∧ L.length = n ∧ L[0]? = some [] ∧ m ≤ 8 ∧ Fair n m L S i ∧
    Rep (fun k => Old w.heap.size k ∨ k = b0) wr pd g cap ch 8 L (m + 1) lo ∧ Same (Old w.heap.size) w wr ∧ ∃ cur, wr.heap[b0]? = some (.cells cur 43 (0, 0)) ∧ ∀ j, j < 8 → cur[j]? = some (.int .i64 (S j))

theorem fair_any (w : World) (a : Int) (ha : 0 ≤ a) (A : Option Addr) (bs : List Int) (c : Nat) (hbl : bs.length ≤ 9223372036854775807) (hs : Src w A bs) (hbs : ∀ x ∈ bs, 0 ≤ x ∧ x ≤ 255) :
    Calls Try.prog 6 #[.int .u8 a, .slice A bs.length c] w fun e w' => e = .returned (.bool true) ∧ Below w.heap.size w w' := by
  have H3 := Lib.hid (runs_any w)
  have Hs := Lib.hid hs; have Hbs := Lib.hid hbs
  clear hs hbs
  by_cases h2 : 60 < bs.length
  · go_enter Try.func6, Try.ntmps6
    go_wp2_with fail
    refine H3.out.mono ?_
    rintro e w1 ⟨rfl, hb⟩
    have Hb := Lib.hid hb; clear hb
    go_wp2_with fail
    go_ret
    exact ⟨rfl, Hb.out⟩
  · clear H3
    have e1 : a.tmod 7 = a % 7 := Int.tmod_eq_emod_of_nonneg ha
    have e2 : (0 : Int) ≤ a % 7 := Int.emod_nonneg _ (by decide)
    have e3 : a % 7 < 7 := Int.emod_lt_of_pos _ (by decide)
    obtain ⟨n, hn⟩ : ∃ n : Nat, a % 7 + 2 = n := ⟨(a % 7 + 2).toNat, by omega⟩
    have hn2 : 2 ≤ n := by omega
    have hn8 : n ≤ 8 := by omega
    have Hn := Lib.hid hn
    go_enter Try.func6, Try.ntmps6
    go_wp2_with fail
    refine (new_any w n 8).mono ?_
    rintro e w1 ⟨g, cap, ch, rfl, hb1, hR1⟩
    have hh1 : held (n : Int) = n := by unfold held; omega
    have hh2 : held 8 = 8 := rfl
    rw [hh1, hh2] at hR1
    have rel1 : FillRel w w.heap.size g cap n ch bs.length (.int .i64 0) w1 := by
      refine ⟨0, List.replicate n [], 0, by omega, rfl, by simp, ?_, by omega, by omega, hR1 _ (fun k hk => hk), Same.of_below hb1⟩
      rw [List.getElem?_replicate, if_pos (by omega)]
    have H1 := Lib.hid rel1
    clear hR1 hb1 rel1 e1 e2 e3 hn
    go_wp2_with fail
    go_loopw [7] (fun v wr => FillRel w w.heap.size g cap n ch bs.length v wr) (fun v _ => bs.length - (intOf v).toNat)
    case atStart => exact H1.out
    case round =>
      clear H1
      obtain ⟨i, L, lo, hi, rfl, hL, hL0, hlo0, hlo, hR, hS⟩ := hrel
      by_cases hlt : i < bs.length
      · obtain ⟨ad, rfl⟩ : ∃ ad, A = some ad := by
          obtain ⟨ad, h, _⟩ := Hs.out (by omega)
          exact ⟨ad, h⟩
        have hsr : Src wr (some ad) bs := fun hp => by
          obtain ⟨ad', e, hl, hc⟩ := Hs.out hp
          refine ⟨ad', e, Nat.lt_of_lt_of_le hl hS.size, fun j v hv => ?_⟩
          rw [← hc j v hv]
          exact (hS.below (B := w.heap.size) (Nat.le_refl _) (fun k hk => hk)).cell (p := ad'.add j) (by rw [add_block]; exact hl)
        obtain ⟨x, hx⟩ : ∃ x, bs[i]? = some x := ⟨_, List.getElem?_eq_getElem hlt⟩
        have hxr := Hbs.out x (List.mem_of_getElem? hx)
        have ci : wr.cell? (ad.add i) = some (.int .u8 x) := by
          obtain ⟨ad', e, hl, hc⟩ := hsr (by omega)
          obtain rfl := Option.some.inj e
          exact hc i _ (by rw [List.getElem?_map, hx]; rfl)
        have q0 : (n : Int) - 1 ≠ 0 := by omega
        have e1 : x.tmod ((n : Int) - 1) = x % (n - 1) := Int.tmod_eq_emod_of_nonneg hxr.1
        have e2 : (0 : Int) ≤ x % ((n : Int) - 1) := Int.emod_nonneg _ q0
        have e3 : x % ((n : Int) - 1) < n - 1 := Int.emod_lt_of_pos _ (by omega)
        have HR := Lib.hid (And.intro hR hS)
        clear hR hS hsr
        go_wp2_with fail
        obtain ⟨q, hq⟩ : ∃ q : Nat, 1 + x % ((n : Int) - 1) = q := ⟨(1 + x % ((n : Int) - 1)).toNat, by omega⟩
        rw [hq]
        have hq1 : 1 ≤ q := by omega
        have hqn : q < n := by omega
        clear e1 e2 e3 hq
        refine (put_in _ _ w.heap.size g cap ch 8 L 1 lo (HR.out.1.alloc _) (fun j hj => by rw [size_al]; exact Nat.lt_of_lt_of_le (Nat.lt_of_lt_of_le hj HR.out.2.size) (Nat.le_succ _)) q (some ⟨wr.heap.size, 0, none⟩) 1 [(i : Int)] (by omega) (by simp) (src_new wr [(i : Int)] (0, 0)) (by omega) (by omega)).mono ?_
        rintro e w2 ⟨rfl, s2, r2⟩
        have H2 := Lib.hid (And.intro r2 ((HR.out.2.trans (Same.of_below ((Below.refl _ _).alloc (Nat.le_refl _) _))).trans s2))
        clear s2 r2 HR
        go_wp2_with fail
        refine ⟨⟨i + 1, laneIn 8 L q [(i : Int)], _, by omega, by simp, ?_, ?_, ?_, ?_, H2.out.1, H2.out.2⟩, by simp [intOf]; omega⟩
        · unfold laneIn; split <;> simp [hL]
        · unfold laneIn; split
          · rw [List.getElem?_set_ne (by omega)]; exact hL0
          · exact hL0
        · split <;> omega
        · split <;> omega
      · have HR := Lib.hid (And.intro hR hS)
        clear hR hS
        go_wp2_with fail
        have rel2 : FairRel w wr.heap.size w.heap.size g cap n ch (.int .i64 1) (wr.alloc (.cells #[.int .i64 0, .int .i64 0, .int .i64 0, .int .i64 0, .int .i64 0, .int .i64 0, .int .i64 0, .int .i64 0] 43)) := by
          refine ⟨1, 0, L, lo, fun _ => 0, by omega, by omega, rfl, hL, hL0, by omega, fair_start _ _ _, (HR.out.1.more (fun k hk hy => ?_)).alloc _, HR.out.2.trans (Same.of_below ((Below.refl _ _).alloc (Nat.le_refl _) _)), _, heap_alloc_new _ _, fun j hj => ?_⟩
          · rcases hy with h | h
            · exact h
            · omega
          · have h8 : j = 0 ∨ j = 1 ∨ j = 2 ∨ j = 3 ∨ j = 4 ∨ j = 5 ∨ j = 6 ∨ j = 7 := by omega
            rcases h8 with rfl | rfl | rfl | rfl | rfl | rfl | rfl | rfl <;> rfl
        obtain ⟨b0, hb0⟩ : ∃ b0, wr.heap.size = b0 := ⟨_, rfl⟩
        have hwb : w.heap.size ≤ b0 := by rw [← hb0]; exact HR.out.2.size
        rw [hb0] at rel2 ⊢
        have H2 := Lib.hid rel2
        clear rel2 HR
        go_loopw [9] (fun v wr => FairRel w b0 w.heap.size g cap n ch v wr) (fun v _ => 61 - (intOf v).toNat)
        case atStart => exact H2.out
        case round =>
          clear H2
          obtain ⟨t, m, L2, lo2, S, ht1, ht2, rfl, hL2, hL20, hm, hfair, hR, hS, cur, hcur, hcS⟩ := hrel
          by_cases hlt2 : t ≤ 60
          · have HR := Lib.hid hR; have HS := Lib.hid hS; have HC := Lib.hid (And.intro hcur hcS); have HF := Lib.hid hfair
            clear hR hS hcur hcS hfair
            go_wp2_with fail
            refine (take_other HR.out hL20 (by omega) (by omega)).mono ?_
            rintro e w3 ⟨⟨f3, s3⟩, ⟨k, b, l, v, hk, hall, hl, rfl, o3, r3⟩ | ⟨hall, rfl, r3⟩⟩
            · rw [hL2] at hk hall hl r3 ⊢
              have hfair2 := fair_next hn2 HF.out hk hall hl
              have hfirst : ∀ p, 1 ≤ p → p < n → Waits L2 p → S (look n m k) ≤ S p := fun p h1 h2 h3 => fair_first hn2 HF.out hk hall ⟨b, l, hl⟩ h1 h2 h3
              obtain ⟨hq1, hqn⟩ := look_lt (n := n) (m := m) (j := k) hn2
              obtain ⟨q, hq⟩ : ∃ q, look n m k = q := ⟨_, rfl⟩
              rw [hq] at hl r3 hfair2 hfirst hq1 hqn ⊢
              have hb0s : b0 < wr.heap.size := (Array.getElem?_eq_some_iff.1 HC.out.1).1
              have hcur3 := (s3.block b0 hb0s (.inr rfl)).trans HC.out.1
              have hcS3 := HC.out.2
              have H3 := Lib.hid r3; have HS3 := Lib.hid (HS.out.trans (s3.mono fun k hk => .inl hk)); have HC3 := Lib.hid (And.intro hcur3 hcS3); have HF3 := Lib.hid hfair2; have HN3 := Lib.hid hfirst; have HL3 := Lib.hid hl
              clear f3 s3 hall r3 hfair2 hfirst hcur3 hcS3 HC HF HS HR o3 hl hq
              go_wp2_with fail
              go_loopw [13] (fun v wr' => (∃ p : Nat, 1 ≤ p ∧ p ≤ n ∧ v = .int .i64 p) ∧ ∃ N, wr' = w3.drewN N) (fun v _ => n - (intOf v).toNat)
              case atStart => exact ⟨⟨1, by omega, by omega, rfl⟩, 0, rfl⟩
              case round =>
                obtain ⟨⟨p, hp1, hpn, rfl⟩, N, rfl⟩ := hrel
                by_cases hpl : p < n
                · by_cases hpq : p = q
                  · subst hpq
                    go_wp2_with fail
                    go_quiet (fail)
                    go_wp2_with fail
                    exact ⟨⟨⟨p + 1, by omega, by omega, by simp⟩, _, rfl⟩, by simp [intOf]; omega⟩
                  · have hpq1 : ((p : Int) == q) = false := by simp; omega
                    have hpq2 : ((p : Int) != q) = true := by simp; omega
                    obtain ⟨z, hz⟩ : ∃ z, ((L2.set q l).getD p []).length = z := ⟨_, rfl⟩
                    have hq8 : (q : Int) < 8 := by omega
                    have hp8 : (p : Int) < 8 := by omega
                    have hlen : ∀ N', Calls Try.prog 11 #[.pointer (some ⟨w.heap.size, 0, none⟩), .int .i64 p] (w3.drewN (N + N')) fun e w' => e = .returned (.int .i64 z) ∧ ∃ M, w' = w3.drewN (N + M) := fun N' => by
                      refine (len_any (H3.out.keep (w' := w3.drewN (N + N')) (fun _ _ _ => rfl)) p).mono ?_
                      rintro e w' ⟨rfl, rfl⟩
                      refine ⟨?_, N', rfl⟩
                      rw [if_pos (by omega), Int.toNat_natCast, hz]
                    have cq := cell_of_row w3 b0 q _ _ _ HC3.out.1
                    rw [HC3.out.2 q (by omega)] at cq
                    have cp := cell_of_row w3 b0 p _ _ _ HC3.out.1
                    rw [HC3.out.2 p (by omega)] at cp
                    have Hlen := Lib.hid hlen; have Hz := Lib.hid hz
                    clear hlen hz
                    by_cases hz0 : 0 < z
                    · have hd : decide ((0 : Int) < z) = true := by simp; omega
                      have hle : S q ≤ S p := HN3.out p hp1 hpl (by
                        have h1 : p < (L2.set q l).length := by rw [List.length_set]; omega
                        have h2 : (L2.set q l)[p]? = some ((L2.set q l).getD p []) := by rw [List.getD_eq_getElem?_getD, List.getElem?_eq_getElem h1]; rfl
                        have h3 := Hz.out
                        refine waits_set (q := q) (l := l) ?_ hpq
                        cases h4 : (L2.set q l).getD p [] with
                        | nil => rw [h4] at h3; simp at h3; omega
                        | cons x xs => rw [h4] at h2; exact ⟨x, xs, h2⟩)
                      have hd2 : decide ((S p : Int) < S q) = false := by simp; omega
                      go_wp2_with fail
                      go_big_quiet ((go_at_call 11; with_reducible exact Hlen.out _))
                      go_wp2_with fail
                      go_roundw
                      case rel => exact ⟨⟨p + 1, by omega, by omega, by simp⟩, _, rfl⟩
                      case measure => simp [intOf]; omega
                    · have hd : decide ((0 : Int) < z) = false := by simp; omega
                      go_wp2_with fail
                      go_big_quiet ((go_at_call 11; with_reducible exact Hlen.out _))
                      go_wp2_with fail
                      go_roundw
                      case rel => exact ⟨⟨p + 1, by omega, by omega, by simp⟩, _, rfl⟩
                      case measure => simp [intOf]; omega
                · have hpn2 : p = n := by omega
                  subst hpn2
                  have cq := cell_of_row w3 b0 q _ _ _ HC3.out.1
                  rw [HC3.out.2 q (by omega)] at cq
                  have fq := frozen_of_row w3 b0 q _ _ HC3.out.1
                  have hq8 : (q : Int) < 8 := by omega
                  go_wp2_with fail
                  have hne : ∀ k, k ≠ b0 → ((w3.drewN N).setCell ⟨b0, q, none⟩ (.int .i64 t)).heap[k]? = w3.heap[k]? := fun k hk => heap_setCell_other (w3.drewN N) _ _ _ (fun e => hk e)
                  refine ⟨⟨t + 1, q, L2.set q l, lo2, upd S q t, by omega, by omega, by simp, by rw [List.length_set]; exact hL2, ?_, by omega, HF3.out, H3.out.keep (fun k hk hx => hne k (fun e => hx (.inr e))), HS3.out.trans ⟨rfl, rfl, rfl, by simp [World.drewN], fun k _ hk => hne k (fun e => ?_)⟩, cur.setIfInBounds q (.int .i64 t), ?_, fun j hj => ?_⟩, by simp [intOf]; omega⟩
                  · rw [List.getElem?_set_ne (by omega)]; exact hL20
                  · unfold Old at hk; omega
                  · rw [heap_setCell_same (w3.drewN N) _ _ _ _ _ HC3.out.1]
                  · rw [Array.getElem?_setIfInBounds]
                    unfold upd
                    by_cases hqj : q = j
                    · subst hqj
                      have := (Array.getElem?_eq_some_iff.1 (HC3.out.2 q hj)).1
                      simp [this]
                    · rw [if_neg hqj, if_neg (Ne.symm hqj)]
                      exact HC3.out.2 j hj
            · have H4 := Lib.hid (HS.out.trans (s3.mono fun k hk => .inl hk))
              clear f3 s3 hall r3
              go_wp2_with fail
              refine (runs_any w3).mono ?_
              rintro e w9 ⟨rfl, hb9⟩
              have H9 := Lib.hid hb9; clear hb9
              go_wp2_with fail
              go_ret
              exact ⟨rfl, (H4.out.below (Nat.le_refl _) (fun k hk => hk)).trans (H9.out.mono H4.out.size)⟩
          · have H4 := Lib.hid hS
            clear hR hS hcur hcS hfair
            go_wp2_with fail
            refine (runs_any wr).mono ?_
            rintro e w9 ⟨rfl, hb9⟩
            have H9 := Lib.hid hb9; clear hb9
            go_wp2_with fail
            go_ret
            exact ⟨rfl, (H4.out.below (Nat.le_refl _) (fun k hk => hk)).trans (H9.out.mono H4.out.size)⟩
end Dk
end Go.Proofs.Ytlhllbnoifppeaa
