/- The walk of DockPlays. -/
import Derived.Test.YtlhllbnoifppeaaPlaysLaw
import Derived.Test.YtlhllbnoifppeaaWLast
namespace Go.Proofs.Ytlhllbnoifppeaa
namespace Dk
open Go.RowKit Go.Proofs.YtlhllbnoifppeaaW.PrintLast
set_option maxHeartbeats 4000000
set_option maxRecDepth 100000

/-- One step as it came in. -/
structure Stp where
  take : Bool
  lane : Int
  A : Option Addr
  bs : List Int
  c : Nat
/-- The steps lie at Al. -/
def Steps (w : World) (Al : Option Addr) (l : List Stp) : Prop :=
  0 < l.length → ∃ B O, Al = some ⟨B, O, none⟩ ∧ B < w.heap.size ∧ ∀ (j : Nat) (s : Stp), l[j]? = some s → w.cell? ⟨B, O + j * 3, none⟩ = some (.bool s.take) ∧ w.cell? ⟨B, O + j * 3 + 1, none⟩ = some (.int .i64 s.lane) ∧
    w.cell? ⟨B, O + j * 3 + 2, none⟩ = some (.slice s.A s.bs.length s.c) ∧ (s.A = none → s.c = 0) ∧ Src w s.A s.bs ∧ s.bs.length ≤ 9223372036854775807
structure PlayAt (w : World) (pd g cap n room : Nat) (ch : List Nat) (pr gl : Nat) (L : List (List (List Int))) (m at' lost : Nat) (X : Nat → Prop) (wr : World) : Prop where
  len : L.length = n
  m8 : m ≤ 8
  mod : m % (n - 1) = at' % (n - 1)
  at8 : at' ≤ 8
  rep : Rep X wr pd g cap ch room L (m + 1) lost
  ref : RRep X wr pr gl room L at' lost
  lt : ∀ k, X k → k < wr.heap.size
  old : ∀ k, k < w.heap.size → X k
  prn : w.heap.size ≤ pr
  gln : w.heap.size ≤ gl
  same : Same (Old w.heap.size) w wr
/-- A step of the dock, then one of the reference. -/
theorem PlayAt.step {w wr w3 w4 : World} {pd g cap n room : Nat} {ch : List Nat} {pr gl : Nat} {L L' : List (List (List Int))} {m at' lost m' at2 lost' : Nat} {X : Nat → Prop} (P : PlayAt w pd g cap n room ch pr gl L m at' lost X wr)
    (s3 : Same X wr w3) (r3 : Rep X w3 pd g cap ch room L' (m' + 1) lost') (s4 : RSame pr gl w3 w4) (r4 : RRep (fun k => X k ∨ (w3.heap.size ≤ k ∧ k < w4.heap.size)) w4 pr gl room L' at2 lost')
    (hlen : L'.length = n) (hm8 : m' ≤ 8) (ha8 : at2 ≤ 8) (hmod : m' % (n - 1) = at2 % (n - 1)) : PlayAt w pd g cap n room ch pr gl L' m' at2 lost' (fun k => X k ∨ (w3.heap.size ≤ k ∧ k < w4.heap.size)) w4 := by
  refine ⟨hlen, hm8, hmod, ha8, (r3.more (fun k hk hy => ?_)).keep (fun k hk hx => s4.block k hk (fun e => hx (.inl (e ▸ P.ref.px))) (fun e => hx (.inl (e ▸ P.ref.gx)))), r4, ?_, fun k hk => .inl (P.old k hk), P.prn, P.gln, ?_⟩
  · rcases hy with h | h
    · exact h
    · omega
  · rintro k (hk | hk)
    · exact Nat.lt_of_lt_of_le (Nat.lt_of_lt_of_le (P.lt k hk) s3.size) s4.size
    · exact hk.2
  · refine (P.same.trans (s3.mono fun k hk => P.old k hk)).trans ⟨s4.os, s4.tape, s4.output, s4.size, fun k hk ho => s4.block k hk ?_ ?_⟩
    · have h1 := P.prn; unfold Old at ho; omega
    · have h1 := P.gln; unfold Old at ho; omega
def PlayRel (w : World) (pd g cap n room : Nat) (ch : List Nat) (pr gl len : Nat) (v : Value) (wr : World) : Prop :=
  ∃ (i : Nat) (L : List (List (List Int))) (m at' lost : Nat) (X : Nat → Prop), i ≤ len ∧ v = .int .i64 i ∧ lost ≤ i ∧ PlayAt w pd g cap n room ch pr gl L m at' lost X wr

theorem plays_any (w : World) (a b : Int) (Al : Option Addr) (l : List Stp) (cl : Nat) (at_ : Int) (hll : l.length ≤ 9223372036854775807) (hs : Steps w Al l) :
    Calls Try.prog 4 #[.int .i64 a, .int .i64 b, .slice Al l.length cl, .int .i64 at_] w fun e w' => e = .returned (.bool true) ∧ Below w.heap.size w w' := by
  have H3 := Lib.hid (runs_any w)
  have Hs := Lib.hid hs
  clear hs
  by_cases h2 : 100 < l.length
  · go_enter Try.func4, Try.ntmps4
    go_wp2_with fail
    refine H3.out.mono ?_
    rintro e w1 ⟨rfl, hb⟩
    have Hb := Lib.hid hb; clear hb
    go_wp2_with fail
    go_ret
    exact ⟨rfl, Hb.out⟩
  · clear H3
    go_enter Try.func4, Try.ntmps4
    go_wp2_with fail
    refine (new_any w a b).mono ?_
    rintro e w1 ⟨g, cap, ch, rfl, hb1, hR1⟩
    have HR1 := Lib.hid hR1; have HB1 := Lib.hid hb1
    clear hR1 hb1
    go_wp2_with fail
    refine (rnew_any w1 a b).mono ?_
    rintro e w2 ⟨rfl, hb2, hR2⟩
    obtain ⟨hn1, hn8⟩ := held_le a
    obtain ⟨hr1, hr8⟩ := held_le b
    have rel0 : PlayRel w w.heap.size g cap (held a) (held b) ch (w1.heap.size + 1) w1.heap.size l.length (.int .i64 0) w2 := by
      refine ⟨0, List.replicate (held a) [], 0, 0, 0, fun k => Old w.heap.size k ∨ (w1.heap.size ≤ k ∧ k < w2.heap.size), by omega, rfl, by omega, ⟨by simp, by omega, rfl, by omega, ?_, ?_, ?_, fun k hk => .inl hk, ?_, ?_, ?_⟩⟩
      · refine ((HR1.out _ (fun k hk => hk)).more (fun k hk hy => ?_)).keep (fun k hk _ => hb2.block k hk)
        rcases hy with h | h
        · exact h
        · omega
      · exact hR2.keep (fun k hk => .inr hk) (fun _ _ _ => rfl)
      · rintro k (hk | hk)
        · exact Nat.lt_of_lt_of_le (Nat.lt_of_lt_of_le hk HB1.out.size) hb2.size
        · exact hk.2
      · have := HB1.out.size; omega
      · exact HB1.out.size
      · exact (Same.of_below HB1.out).trans (Same.of_below hb2)
    obtain ⟨n, hn⟩ : ∃ n, held a = n := ⟨_, rfl⟩
    obtain ⟨room, hroom⟩ : ∃ n, held b = n := ⟨_, rfl⟩
    obtain ⟨pr, hpr⟩ : ∃ n, w1.heap.size + 1 = n := ⟨_, rfl⟩
    obtain ⟨gl, hgl⟩ : ∃ n, w1.heap.size = n := ⟨_, rfl⟩
    rw [hn, hroom, hpr, hgl] at rel0
    rw [hpr]
    rw [hn] at hn1 hn8
    rw [hroom] at hr1 hr8
    have H0 := Lib.hid rel0
    clear rel0 hb2 hR2 HR1 HB1 hn hroom hpr hgl
    go_wp2_with fail
    go_loopw [11] (fun v wr => PlayRel w w.heap.size g cap n room ch pr gl l.length v wr) (fun v _ => l.length - (intOf v).toNat)
    case atStart => exact H0.out
    case round =>
      clear H0
      obtain ⟨i, L, m, at', lost, X, hi, rfl, hlo, hP⟩ := hrel
      by_cases hlt : i < l.length
      · obtain ⟨B, O, rfl, hadb, hcells⟩ := Hs.out (by omega)
        obtain ⟨s, hsi⟩ : ∃ s, l[i]? = some s := ⟨_, List.getElem?_eq_getElem hlt⟩
        obtain ⟨cb0, cl0, cs0, hAc, hsrc, hbl⟩ := hcells i s hsi
        have old : ∀ (p : Addr), p.block < w.heap.size → wr.cell? p = w.cell? p := fun p hp => (hP.same.below (B := w.heap.size) (Nat.le_refl _) (fun k hk => hk)).cell hp
        have cb := (old ⟨B, O + i * 3, none⟩ hadb).trans cb0
        have cla := (old ⟨B, O + i * 3 + 1, none⟩ hadb).trans cl0
        have csl := (old ⟨B, O + i * 3 + 2, none⟩ hadb).trans cs0
        have HP := Lib.hid hP; have Hsrc := Lib.hid hsrc; have HAc := Lib.hid hAc
        clear hP hcells hsrc cb0 cl0 cs0 old hAc
        by_cases h200 : 200 < s.bs.length
        · go_wp2_with fail
          refine (runs_any wr).mono ?_
          rintro e w9 ⟨rfl, hb9⟩
          have H9 := Lib.hid hb9; clear hb9
          go_wp2_with fail
          go_ret
          exact ⟨rfl, (HP.out.same.below (Nat.le_refl _) (fun k hk => hk)).trans (H9.out.mono HP.out.same.size)⟩
        · cases htk : s.take with
          | true =>
            rw [htk] at cb
            go_wp2_with fail
            refine (dtake_any HP.out.rep (by rw [HP.out.len]; exact hn1) (by rw [HP.out.len]; exact hn8) HP.out.m8).mono ?_
            rintro e w3 ⟨⟨f3, s3⟩, D⟩
            have rr3 := HP.out.ref.keep (w' := w3) (fun _ h => h) (fun k hk hx => s3.block k hk hx)
            have hmod := HP.out.mod
            rw [← HP.out.len] at hmod
            rcases D with ⟨q, m', bb, ll, v, hl, hF, hm8, rfl, o3, r3⟩ | ⟨h0, hall, rfl, r3⟩
            · have HR3 := Lib.hid rr3; have H3 := Lib.hid (And.intro s3 (And.intro o3 r3)); have HF := Lib.hid hF; have Hl := Lib.hid hl
              clear s3 o3 r3 f3 rr3 hF hl
              go_wp2_with fail
              refine (rtake_any HR3.out (by rw [HP.out.len]; exact hn1) (by rw [HP.out.len]; exact hn8) HP.out.at8).mono ?_
              rintro e w4 ⟨s4, ⟨q2, at2, b2, l2, v2, hl2, hF2, rfl, o4, r4⟩ | ⟨h0, hall, rfl, r4⟩⟩
              · obtain ⟨rfl, hmod2⟩ := fnd_same hmod HF.out hF2 Hl.out hl2
                rw [Hl.out] at hl2
                have e12 : bb = b2 ∧ ll = l2 := List.cons.inj (Option.some.inj hl2)
                obtain ⟨rfl, rfl⟩ := e12
                have cv : (convert 25 9 v).run Try.prog w4 = .ok (.string (strOfNums bb)) w4 := conv_own (H3.out.2.1.keep (fun k cu fr hk hx => s4.block k (Array.getElem?_eq_some_iff.1 hk).1 (fun e => hx (e ▸ HP.out.ref.px)) (fun e => hx (e ▸ HP.out.ref.gx))))
                have cv2 : (convert 25 9 v2).run Try.prog w4 = .ok (.string (strOfNums bb)) w4 := o4.conv
                rw [HP.out.len] at hmod2
                have hat2 : at2 ≤ 8 := by
                  rcases hF2 with ⟨_, rfl⟩ | ⟨_, k, hk, _, rfl, rfl⟩
                  · exact HP.out.at8
                  · have h1 := look_lt (n := L.length) (m := at') (j := k) (by omega)
                    have h2 := Nat.mod_le (look L.length at' k) (L.length - 1)
                    have h3 := HP.out.len
                    omega
                have P4 := HP.out.step H3.out.1 H3.out.2.2 s4 (r4.keep (fun k hk => .inl hk) (fun _ _ _ => rfl)) (by rw [List.length_set]; exact HP.out.len) hm8 hat2 hmod2
                have H4 := Lib.hid P4
                clear P4 s4 o4 r4 hl2 hF2
                go_wp2_with fail
                exact ⟨⟨i + 1, _, m', at2, lost, _, by omega, by simp, by omega, H4.out⟩, by simp [intOf]; omega⟩
              · exact (fnd_none hmod HF.out Hl.out h0 hall).elim
            · have HR3 := Lib.hid rr3; have H3 := Lib.hid (And.intro s3 r3); have Hall := Lib.hid hall
              clear s3 r3 f3 rr3 hall
              go_wp2_with fail
              refine (rtake_any HR3.out (by rw [HP.out.len]; exact hn1) (by rw [HP.out.len]; exact hn8) HP.out.at8).mono ?_
              rintro e w4 ⟨s4, ⟨q2, at2, b2, l2, v2, hl2, hF2, rfl, o4, r4⟩ | ⟨_, _, rfl, r4⟩⟩
              · exact (fnd_none2 hmod hF2 hl2 h0 Hall.out).elim
              · have cv : (convert 25 9 (.slice none 0 0)).run Try.prog w4 = .ok (.string (strOfNums [])) w4 := conv_src w4 none [] 0 (fun h => by simp at h)
                have P4 := HP.out.step H3.out.1 H3.out.2 s4 (r4.keep (fun k hk => .inl hk) (fun _ _ _ => rfl)) HP.out.len HP.out.m8 HP.out.at8 HP.out.mod
                have H4 := Lib.hid P4
                clear P4 s4 r4
                go_wp2_with fail
                exact ⟨⟨i + 1, _, m, at', lost, _, by omega, by simp, by omega, H4.out⟩, by simp [intOf]; omega⟩
          | false =>
            rw [htk] at cb
            have hsr : Src wr.drew s.A s.bs := fun hp => by
              obtain ⟨ad', e, hl, hc⟩ := Hsrc.out hp
              refine ⟨ad', e, Nat.lt_of_lt_of_le hl HP.out.same.size, fun j v hv => ?_⟩
              rw [← hc j v hv]
              exact (HP.out.same.below (B := w.heap.size) (Nat.le_refl _) (fun k hk => hk)).cell (p := ad'.add j) (by rw [add_block]; exact hl)
            have Hsr := Lib.hid hsr; have Hs0 := Lib.hid Hsrc.out
            clear hsr
            go_wp2_with fail
            refine start_ (n := 25) (S := fun W' => W'.heap[B]? = wr.heap[B]?) (ds := []) #[false, false, false, false, false, false, false, false, false, false, false, false, false, false, false, false, false, false, false, false, false, false, false, false, false] (by kernel_rfl) rfl rfl rfl (fun hHeld => ?_)
            refine pure_ (i := 0) (N := some 77) (v := .pointer (some ⟨w.heap.size, 0, none⟩)) #[true, false, false, false, false, false, false, false, false, false, false, false, false, false, false, false, false, false, false, false, false, false, false, false, false] rfl rfl (by kernel_rfl) (fun _ _ _ h => h) (Or.inl ⟨by rfl, fun w' => by go_simp⟩) rfl ?_
            simp only [Act.put, List.setIfInBounds_toArray, List.set_cons_zero, List.set_cons_succ]
            refine pure_ (i := 1) (N := some 78) (v := .slice (some ⟨B, O, none⟩) l.length cl) #[true, true, false, false, false, false, false, false, false, false, false, false, false, false, false, false, false, false, false, false, false, false, false, false, false] rfl rfl (by kernel_rfl) (fun _ _ _ h => h) (Or.inl ⟨by rfl, fun w' => by go_simp⟩) rfl ?_
            simp only [Act.put, List.setIfInBounds_toArray, List.set_cons_zero, List.set_cons_succ]
            refine pure_ (i := 2) (N := some 79) (v := .int .i64 i) #[true, true, true, false, false, false, false, false, false, false, false, false, false, false, false, false, false, false, false, false, false, false, false, false, false] rfl rfl (by kernel_rfl) (fun _ _ _ h => h) (Or.inl ⟨by rfl, fun w' => by go_simp⟩) rfl ?_
            simp only [Act.put, List.setIfInBounds_toArray, List.set_cons_zero, List.set_cons_succ]
            refine pure_ (i := 3) (N := some 80) (v := .pointer (some ⟨B, O + i * 3, none⟩)) #[true, true, true, true, false, false, false, false, false, false, false, false, false, false, false, false, false, false, false, false, false, false, false, false, false] rfl rfl (by kernel_rfl) (fun _ _ _ h => h) (Or.inl ⟨by rfl, fun w' => by go_simp⟩) rfl ?_
            simp only [Act.put, List.setIfInBounds_toArray, List.set_cons_zero, List.set_cons_succ]
            refine pure_ (i := 4) (N := some 81) (v := .pointer (some ⟨B, O + i * 3 + 1, none⟩)) #[true, true, true, true, true, false, false, false, false, false, false, false, false, false, false, false, false, false, false, false, false, false, false, false, false] rfl rfl (by kernel_rfl) (fun _ _ _ h => h) (Or.inl ⟨by rfl, fun w' => by go_simp⟩) rfl ?_
            simp only [Act.put, List.setIfInBounds_toArray, List.set_cons_zero, List.set_cons_succ]
            refine take_ (i := 5) (N := some 82) (v := .int .i64 s.lane) #[true, true, true, true, true, true, false, false, false, false, false, false, false, false, false, false, false, false, false, false, false, false, false, false, false] rfl rfl (by kernel_rfl) (fun _ _ _ h => h) (Or.inl ⟨by rfl, fun w' hw' => by have hc := (World.cell?_of_block (a := ⟨B, O + i * 3 + 1, none⟩) hw').trans cla; go_simp⟩) hHeld rfl ?_
            simp only [Act.put, List.setIfInBounds_toArray, List.set_cons_zero, List.set_cons_succ]
            refine pure_ (i := 6) (N := some 83) (v := .slice (some ⟨B, O, none⟩) l.length cl) #[true, true, true, true, true, true, true, false, false, false, false, false, false, false, false, false, false, false, false, false, false, false, false, false, false] rfl rfl (by kernel_rfl) (fun _ _ _ h => h) (Or.inl ⟨by rfl, fun w' => by go_simp⟩) rfl ?_
            simp only [Act.put, List.setIfInBounds_toArray, List.set_cons_zero, List.set_cons_succ]
            refine pure_ (i := 7) (N := some 84) (v := .int .i64 i) #[true, true, true, true, true, true, true, true, false, false, false, false, false, false, false, false, false, false, false, false, false, false, false, false, false] rfl rfl (by kernel_rfl) (fun _ _ _ h => h) (Or.inl ⟨by rfl, fun w' => by go_simp⟩) rfl ?_
            simp only [Act.put, List.setIfInBounds_toArray, List.set_cons_zero, List.set_cons_succ]
            refine pure_ (i := 8) (N := some 85) (v := .pointer (some ⟨B, O + i * 3, none⟩)) #[true, true, true, true, true, true, true, true, true, false, false, false, false, false, false, false, false, false, false, false, false, false, false, false, false] rfl rfl (by kernel_rfl) (fun _ _ _ h => h) (Or.inl ⟨by rfl, fun w' => by go_simp⟩) rfl ?_
            simp only [Act.put, List.setIfInBounds_toArray, List.set_cons_zero, List.set_cons_succ]
            refine pure_ (i := 9) (N := some 86) (v := .pointer (some ⟨B, O + i * 3 + 2, none⟩)) #[true, true, true, true, true, true, true, true, true, true, false, false, false, false, false, false, false, false, false, false, false, false, false, false, false] rfl rfl (by kernel_rfl) (fun _ _ _ h => h) (Or.inl ⟨by rfl, fun w' => by go_simp⟩) rfl ?_
            simp only [Act.put, List.setIfInBounds_toArray, List.set_cons_zero, List.set_cons_succ]
            refine take_ (i := 10) (N := some 87) (v := .slice s.A s.bs.length s.c) #[true, true, true, true, true, true, true, true, true, true, true, false, false, false, false, false, false, false, false, false, false, false, false, false, false] rfl rfl (by kernel_rfl) (fun _ _ _ h => h) (Or.inl ⟨by rfl, fun w' hw' => by have hc := (World.cell?_of_block (a := ⟨B, O + i * 3 + 2, none⟩) hw').trans csl; go_simp⟩) hHeld rfl ?_
            simp only [Act.put, List.setIfInBounds_toArray, List.set_cons_zero, List.set_cons_succ]
            refine pure_ (i := 12) (N := some 89) (v := .pointer (some ⟨pr, 0, none⟩)) #[true, true, true, true, true, true, true, true, true, true, true, false, true, false, false, false, false, false, false, false, false, false, false, false, false] rfl rfl (by kernel_rfl) (fun _ _ _ h => h) (Or.inl ⟨by rfl, fun w' => by go_simp⟩) rfl ?_
            simp only [Act.put, List.setIfInBounds_toArray, List.set_cons_zero, List.set_cons_succ]
            refine pure_ (i := 13) (N := some 90) (v := .slice (some ⟨B, O, none⟩) l.length cl) #[true, true, true, true, true, true, true, true, true, true, true, false, true, true, false, false, false, false, false, false, false, false, false, false, false] rfl rfl (by kernel_rfl) (fun _ _ _ h => h) (Or.inl ⟨by rfl, fun w' => by go_simp⟩) rfl ?_
            simp only [Act.put, List.setIfInBounds_toArray, List.set_cons_zero, List.set_cons_succ]
            refine pure_ (i := 14) (N := some 91) (v := .int .i64 i) #[true, true, true, true, true, true, true, true, true, true, true, false, true, true, true, false, false, false, false, false, false, false, false, false, false] rfl rfl (by kernel_rfl) (fun _ _ _ h => h) (Or.inl ⟨by rfl, fun w' => by go_simp⟩) rfl ?_
            simp only [Act.put, List.setIfInBounds_toArray, List.set_cons_zero, List.set_cons_succ]
            refine pure_ (i := 15) (N := some 92) (v := .pointer (some ⟨B, O + i * 3, none⟩)) #[true, true, true, true, true, true, true, true, true, true, true, false, true, true, true, true, false, false, false, false, false, false, false, false, false] rfl rfl (by kernel_rfl) (fun _ _ _ h => h) (Or.inl ⟨by rfl, fun w' => by go_simp⟩) rfl ?_
            simp only [Act.put, List.setIfInBounds_toArray, List.set_cons_zero, List.set_cons_succ]
            refine pure_ (i := 16) (N := some 93) (v := .pointer (some ⟨B, O + i * 3 + 1, none⟩)) #[true, true, true, true, true, true, true, true, true, true, true, false, true, true, true, true, true, false, false, false, false, false, false, false, false] rfl rfl (by kernel_rfl) (fun _ _ _ h => h) (Or.inl ⟨by rfl, fun w' => by go_simp⟩) rfl ?_
            simp only [Act.put, List.setIfInBounds_toArray, List.set_cons_zero, List.set_cons_succ]
            refine take_ (i := 17) (N := some 94) (v := .int .i64 s.lane) #[true, true, true, true, true, true, true, true, true, true, true, false, true, true, true, true, true, true, false, false, false, false, false, false, false] rfl rfl (by kernel_rfl) (fun _ _ _ h => h) (Or.inl ⟨by rfl, fun w' hw' => by have hc := (World.cell?_of_block (a := ⟨B, O + i * 3 + 1, none⟩) hw').trans cla; go_simp⟩) hHeld rfl ?_
            simp only [Act.put, List.setIfInBounds_toArray, List.set_cons_zero, List.set_cons_succ]
            refine pure_ (i := 18) (N := some 95) (v := .slice (some ⟨B, O, none⟩) l.length cl) #[true, true, true, true, true, true, true, true, true, true, true, false, true, true, true, true, true, true, true, false, false, false, false, false, false] rfl rfl (by kernel_rfl) (fun _ _ _ h => h) (Or.inl ⟨by rfl, fun w' => by go_simp⟩) rfl ?_
            simp only [Act.put, List.setIfInBounds_toArray, List.set_cons_zero, List.set_cons_succ]
            refine pure_ (i := 19) (N := some 96) (v := .int .i64 i) #[true, true, true, true, true, true, true, true, true, true, true, false, true, true, true, true, true, true, true, true, false, false, false, false, false] rfl rfl (by kernel_rfl) (fun _ _ _ h => h) (Or.inl ⟨by rfl, fun w' => by go_simp⟩) rfl ?_
            simp only [Act.put, List.setIfInBounds_toArray, List.set_cons_zero, List.set_cons_succ]
            refine pure_ (i := 20) (N := some 97) (v := .pointer (some ⟨B, O + i * 3, none⟩)) #[true, true, true, true, true, true, true, true, true, true, true, false, true, true, true, true, true, true, true, true, true, false, false, false, false] rfl rfl (by kernel_rfl) (fun _ _ _ h => h) (Or.inl ⟨by rfl, fun w' => by go_simp⟩) rfl ?_
            simp only [Act.put, List.setIfInBounds_toArray, List.set_cons_zero, List.set_cons_succ]
            refine pure_ (i := 21) (N := some 98) (v := .pointer (some ⟨B, O + i * 3 + 2, none⟩)) #[true, true, true, true, true, true, true, true, true, true, true, false, true, true, true, true, true, true, true, true, true, true, false, false, false] rfl rfl (by kernel_rfl) (fun _ _ _ h => h) (Or.inl ⟨by rfl, fun w' => by go_simp⟩) rfl ?_
            simp only [Act.put, List.setIfInBounds_toArray, List.set_cons_zero, List.set_cons_succ]
            refine take_ (i := 22) (N := some 99) (v := .slice s.A s.bs.length s.c) #[true, true, true, true, true, true, true, true, true, true, true, false, true, true, true, true, true, true, true, true, true, true, true, false, false] rfl rfl (by kernel_rfl) (fun _ _ _ h => h) (Or.inl ⟨by rfl, fun w' hw' => by have hc := (World.cell?_of_block (a := ⟨B, O + i * 3 + 2, none⟩) hw').trans csl; go_simp⟩) hHeld rfl ?_
            simp only [Act.put, List.setIfInBounds_toArray, List.set_cons_zero, List.set_cons_succ]
            refine one_ (i := 11) (N := some 88) #[true, true, true, true, true, true, true, true, true, true, true, true, true, true, true, true, true, true, true, true, true, true, true, false, false] rfl rfl (by kernel_rfl) (by simp) (fun K hK => ?_)
            refine goes_ Try.func9 (by kernel_rfl) rfl #[.pointer (some ⟨w.heap.size, 0, none⟩), .int .i64 s.lane, .slice s.A s.bs.length s.c] (by rfl) rfl rfl (by simp only [List.map_toArray, List.map_cons, List.map_nil]; rfl) ?_
            refine (dput_any (HP.out.rep.keep (w' := wr.drew) (fun _ _ _ => rfl)) HP.out.lt s.lane s.A s.c s.bs (by omega) Hsr.out (by omega)).mono ?_
            rintro e w3 ⟨rfl, s3, r3⟩
            have s3' : Same X wr w3 := (Same.trans (a := wr) (b := wr.drew) ⟨rfl, rfl, rfl, Nat.le_refl _, fun _ _ _ => rfl⟩ s3)
            have hB3 : w3.heap[B]? = wr.heap[B]? := s3'.block B (HP.out.lt B (HP.out.old B hadb)) (HP.out.old B hadb)
            refine ⟨_, rfl, hK.out _ _ hB3 (fun hHeld1 => ?_)⟩
            clear hK K
            simp only [Act.put, List.setIfInBounds_toArray, List.set_cons_zero, List.set_cons_succ]
            refine one_ (i := 23) (N := some 100) #[true, true, true, true, true, true, true, true, true, true, true, true, true, true, true, true, true, true, true, true, true, true, true, true, false] rfl rfl (by kernel_rfl) (by simp) (fun K hK => ?_)
            refine goes_ Try.func15 (by kernel_rfl) rfl #[.pointer (some ⟨pr, 0, none⟩), .int .i64 s.lane, .slice s.A s.bs.length s.c] (by rfl) rfl rfl (by simp only [List.map_toArray, List.map_cons, List.map_nil]; rfl) ?_
            have hsr3 : Src w3 s.A s.bs := fun hp => by
              obtain ⟨ad', e, hl, hc⟩ := Hs0.out hp
              exact ⟨ad', e, Nat.lt_of_lt_of_le hl (Nat.le_trans HP.out.same.size s3'.size), fun j v hv => by
                rw [← hc j v hv]
                exact ((HP.out.same.trans (s3'.mono fun k hk => HP.out.old k hk)).below (B := w.heap.size) (Nat.le_refl _) (fun k hk => hk)).cell (p := ad'.add j) (by rw [add_block]; exact hl)⟩
            refine (rput_any (HP.out.ref.keep (w' := w3) (fun _ h => h) (fun k hk hx => s3'.block k hk hx)) s.lane s.A s.c HAc.out s.bs (by omega) hsr3 (by omega) (by omega)).mono ?_
            rintro e w4 ⟨rfl, s4, r4⟩
            have hB4 : w4.heap[B]? = wr.heap[B]? := (s4.block B (Nat.lt_of_lt_of_le (HP.out.lt B (HP.out.old B hadb)) s3'.size) (fun e => by have := HP.out.prn; omega) (fun e => by have := HP.out.gln; omega)).trans hB3
            refine ⟨_, rfl, hK.out _ _ hB4 (fun hHeld2 => ?_)⟩
            clear hK K
            simp only [Act.put, List.setIfInBounds_toArray, List.set_cons_zero, List.set_cons_succ]
            refine pure_ (i := 24) (N := some 101) (v := .bool false) #[true, true, true, true, true, true, true, true, true, true, true, true, true, true, true, true, true, true, true, true, true, true, true, true, true] rfl rfl (by kernel_rfl) (fun _ _ _ h => h) (Or.inl ⟨by rfl, fun w' => by go_simp⟩) rfl ?_
            simp only [Act.put, List.setIfInBounds_toArray, List.set_cons_zero, List.set_cons_succ]
            refine done_ (by kernel_rfl) ?_
            have P4 := HP.out.step s3' r3 s4 r4 (by rw [putL_len]; exact HP.out.len) HP.out.m8 HP.out.at8 HP.out.mod
            have H4 := Lib.hid P4
            clear P4 s3 s3' r3 s4 r4 hsr3 hB3 hB4 hHeld hHeld1 hHeld2
            go_wp2_with fail
            have hpl := putLost_le room L s.lane lost
            exact ⟨⟨i + 1, _, m, at', _, _, by omega, by simp, by omega, H4.out⟩, by simp [intOf]; omega⟩
      · have HP := Lib.hid hP
        have c1 := cell_of_row wr pr 1 _ _ _ hP.ref.pb
        clear hP
        by_cases hat0 : 0 ≤ at_
        · obtain ⟨j, rfl⟩ : ∃ j : Nat, at_ = j := ⟨at_.toNat, by omega⟩
          by_cases hatn : j < L.length
          · have hatn' : (j : Int) < L.length := by omega
            obtain ⟨_, Aj, cj, _, cgj, rfl, _⟩ := HP.out.ref.at_ (List.getElem?_eq_getElem hatn)
            obtain ⟨z, hz⟩ : ∃ z, (L[j]'hatn).length = z := ⟨_, rfl⟩
            rw [hz] at cgj
            have hz2 : (L.getD j []).length = z := by rw [List.getD_eq_getElem?_getD, List.getElem?_eq_getElem hatn]; exact hz
            clear hz
            go_wp2_with fail
            refine start_ (n := 18) (S := fun W' => W'.heap[pr]? = wr.heap[pr]?) (ds := []) #[false, false, false, false, false, false, false, false, false, false, false, false, false, false, false, false, false, false] (by kernel_rfl) rfl rfl rfl (fun hHeld => ?_)
            refine pure_ (i := 0) (N := some 121) (v := .pointer (some ⟨w.heap.size, 0, none⟩)) #[true, false, false, false, false, false, false, false, false, false, false, false, false, false, false, false, false, false] rfl rfl (by kernel_rfl) (fun _ _ _ h => h) (Or.inl ⟨by rfl, fun w' => by go_simp⟩) rfl ?_
            simp only [Act.put, List.setIfInBounds_toArray, List.set_cons_zero, List.set_cons_succ]
            refine pure_ (i := 1) (N := some 122) (v := .int .i64 (j : Int)) #[true, true, false, false, false, false, false, false, false, false, false, false, false, false, false, false, false, false] rfl rfl (by kernel_rfl) (fun _ _ _ h => h) (Or.inl ⟨by rfl, fun w' => by go_simp⟩) rfl ?_
            simp only [Act.put, List.setIfInBounds_toArray, List.set_cons_zero, List.set_cons_succ]
            refine pure_ (i := 3) (N := some 124) (v := .int .i64 z) #[true, true, false, true, false, false, false, false, false, false, false, false, false, false, false, false, false, false] rfl rfl (by kernel_rfl) (fun _ _ _ h => h) (Or.inl ⟨by rfl, fun w' => by go_simp⟩) rfl ?_
            simp only [Act.put, List.setIfInBounds_toArray, List.set_cons_zero, List.set_cons_succ]
            refine one_ (i := 2) (N := some 123) #[true, true, true, true, false, false, false, false, false, false, false, false, false, false, false, false, false, false] rfl rfl (by kernel_rfl) (by simp) (fun K hK => ?_)
            refine goes_ Try.func11 (by kernel_rfl) rfl #[.pointer (some ⟨w.heap.size, 0, none⟩), .int .i64 (j : Int)] (by rfl) rfl rfl (by simp only [List.map_toArray, List.map_cons, List.map_nil]; rfl) ?_
            refine (len_any (HP.out.rep.keep (w' := wr.drew) (fun _ _ _ => rfl)) (j : Int)).mono ?_
            rintro e w3 ⟨rfl, rfl⟩
            rw [if_pos (show (0 : Int) ≤ (j : Int) by omega), Int.toNat_natCast, hz2]
            refine ⟨_, rfl, hK.out _ _ hHeld (fun hHeld1 => ?_)⟩
            clear hK K
            simp only [Act.put, List.setIfInBounds_toArray, List.set_cons_zero, List.set_cons_succ]
            refine pure_ (i := 4) (N := some 125) (v := .bool true) #[true, true, true, true, true, false, false, false, false, false, false, false, false, false, false, false, false, false] rfl rfl (by kernel_rfl) (fun _ _ _ h => h) (Or.inl ⟨by rfl, fun w' => by go_simp⟩) rfl ?_
            simp only [Act.put, List.setIfInBounds_toArray, List.set_cons_zero, List.set_cons_succ]
            refine pure_ (i := 5) (N := some 126) (v := .bool true) #[true, true, true, true, true, true, false, false, false, false, false, false, false, false, false, false, false, false] rfl rfl (by kernel_rfl) (fun _ _ _ h => h) (Or.inl ⟨by rfl, fun w' => by go_simp⟩) rfl ?_
            simp only [Act.put, List.setIfInBounds_toArray, List.set_cons_zero, List.set_cons_succ]
            refine pure_ (i := 6) (N := some 127) (v := .pointer (some ⟨w.heap.size, 0, none⟩)) #[true, true, true, true, true, true, true, false, false, false, false, false, false, false, false, false, false, false] rfl rfl (by kernel_rfl) (fun _ _ _ h => h) (Or.inl ⟨by rfl, fun w' => by go_simp⟩) rfl ?_
            simp only [Act.put, List.setIfInBounds_toArray, List.set_cons_zero, List.set_cons_succ]
            refine pure_ (i := 8) (N := some 129) (v := .pointer (some ⟨pr, 0, none⟩)) #[true, true, true, true, true, true, true, false, true, false, false, false, false, false, false, false, false, false] rfl rfl (by kernel_rfl) (fun _ _ _ h => h) (Or.inl ⟨by rfl, fun w' => by go_simp⟩) rfl ?_
            simp only [Act.put, List.setIfInBounds_toArray, List.set_cons_zero, List.set_cons_succ]
            refine pure_ (i := 9) (N := some 130) (v := .pointer (some ⟨pr, 0, none⟩)) #[true, true, true, true, true, true, true, false, true, true, false, false, false, false, false, false, false, false] rfl rfl (by kernel_rfl) (fun _ _ _ h => h) (Or.inl ⟨by rfl, fun w' => by go_simp⟩) rfl ?_
            simp only [Act.put, List.setIfInBounds_toArray, List.set_cons_zero, List.set_cons_succ]
            refine pure_ (i := 10) (N := some 131) (v := .pointer (some ⟨pr, 3, none⟩)) #[true, true, true, true, true, true, true, false, true, true, true, false, false, false, false, false, false, false] rfl rfl (by kernel_rfl) (fun _ _ _ h => h) (Or.inl ⟨by rfl, fun w' => by go_simp⟩) rfl ?_
            simp only [Act.put, List.setIfInBounds_toArray, List.set_cons_zero, List.set_cons_succ]
            refine take_ (i := 11) (N := some 132) (v := .int .i64 lost) #[true, true, true, true, true, true, true, false, true, true, true, true, false, false, false, false, false, false] rfl rfl (by kernel_rfl) (fun _ _ _ h => h) (Or.inl ⟨by rfl, fun w' hw' => by have hc := cell_of_row w' pr 3 _ _ _ (hw'.trans HP.out.ref.pb); go_simp⟩) hHeld rfl ?_
            simp only [Act.put, List.setIfInBounds_toArray, List.set_cons_zero, List.set_cons_succ]
            refine one_ (i := 7) (N := some 128) #[true, true, true, true, true, true, true, true, true, true, true, true, false, false, false, false, false, false] rfl rfl (by kernel_rfl) (by simp) (fun K hK => ?_)
            refine goes_ Try.func12 (by kernel_rfl) rfl #[.pointer (some ⟨w.heap.size, 0, none⟩)] (by rfl) rfl rfl (by simp only [List.map_toArray, List.map_cons, List.map_nil]; rfl) ?_
            refine (lost_any (HP.out.rep.keep (w' := wr.drew) (fun _ _ _ => rfl))).mono ?_
            rintro e w3 ⟨rfl, rfl⟩
            refine ⟨_, rfl, hK.out _ _ hHeld (fun hHeld2 => ?_)⟩
            clear hK K
            simp only [Act.put, List.setIfInBounds_toArray, List.set_cons_zero, List.set_cons_succ]
            refine pure_ (i := 12) (N := some 133) (v := .bool true) #[true, true, true, true, true, true, true, true, true, true, true, true, true, false, false, false, false, false] rfl rfl (by kernel_rfl) (fun _ _ _ h => h) (Or.inl ⟨by rfl, fun w' => by go_simp⟩) rfl ?_
            simp only [Act.put, List.setIfInBounds_toArray, List.set_cons_zero, List.set_cons_succ]
            refine pure_ (i := 13) (N := some 134) (v := .bool true) #[true, true, true, true, true, true, true, true, true, true, true, true, true, true, false, false, false, false] rfl rfl (by kernel_rfl) (fun _ _ _ h => h) (Or.inl ⟨by rfl, fun w' => by go_simp⟩) rfl ?_
            simp only [Act.put, List.setIfInBounds_toArray, List.set_cons_zero, List.set_cons_succ]
            refine pure_ (i := 14) (N := some 135) (v := .bool true) #[true, true, true, true, true, true, true, true, true, true, true, true, true, true, true, false, false, false] rfl rfl (by kernel_rfl) (fun _ _ _ h => h) (Or.inl ⟨by rfl, fun w' => by go_simp⟩) rfl ?_
            simp only [Act.put, List.setIfInBounds_toArray, List.set_cons_zero, List.set_cons_succ]
            refine one_ (i := 15) (N := some 136) #[true, true, true, true, true, true, true, true, true, true, true, true, true, true, true, true, false, false] rfl rfl (by kernel_rfl) (by simp) (fun K hK => ?_)
            refine goes_ Try.func3 (by kernel_rfl) rfl #[] (by rfl) rfl rfl (by simp only [List.map_toArray, List.map_nil]) ?_
            refine (runs_any wr.drew).mono ?_
            rintro e w9 ⟨rfl, hb9⟩
            refine ⟨_, rfl, hK.out _ _ (hb9.block pr (Array.getElem?_eq_some_iff.1 HP.out.ref.pb).1) (fun hHeld3 => ?_)⟩
            clear hK K
            simp only [Act.put, List.setIfInBounds_toArray, List.set_cons_zero, List.set_cons_succ]
            refine pure_ (i := 16) (N := some 137) (v := .bool true) #[true, true, true, true, true, true, true, true, true, true, true, true, true, true, true, true, true, false] rfl rfl (by kernel_rfl) (fun _ _ _ h => h) (Or.inl ⟨by rfl, fun w' => by go_simp⟩) rfl ?_
            simp only [Act.put, List.setIfInBounds_toArray, List.set_cons_zero, List.set_cons_succ]
            refine pure_ (i := 17) (N := some 8) (v := .bool true) #[true, true, true, true, true, true, true, true, true, true, true, true, true, true, true, true, true, true] rfl rfl (by kernel_rfl) (fun _ _ _ h => h) (Or.inl ⟨by rfl, fun w' => by go_simp⟩) rfl ?_
            simp only [Act.put, List.setIfInBounds_toArray, List.set_cons_zero, List.set_cons_succ]
            refine done_ (by kernel_rfl) ?_
            go_wp2_with fail
            go_ret
            exact ⟨rfl, (HP.out.same.below (Nat.le_refl _) (fun k hk => hk)).trans (Below.mono (show Below wr.heap.size wr w9 from ⟨hb9.os, hb9.tape, hb9.output, hb9.size, hb9.block⟩) HP.out.same.size)⟩
          · have hatn' : decide ((j : Int) < L.length) = false := by simp; omega
            go_wp2_with fail
            refine start_ (n := 18) (S := fun W' => W'.heap[pr]? = wr.heap[pr]?) (ds := []) #[false, false, false, false, false, false, false, false, false, false, false, false, false, false, false, false, false, false] (by kernel_rfl) rfl rfl rfl (fun hHeld => ?_)
            refine pure_ (i := 0) (N := some 121) (v := .pointer (some ⟨w.heap.size, 0, none⟩)) #[true, false, false, false, false, false, false, false, false, false, false, false, false, false, false, false, false, false] rfl rfl (by kernel_rfl) (fun _ _ _ h => h) (Or.inl ⟨by rfl, fun w' => by go_simp⟩) rfl ?_
            simp only [Act.put, List.setIfInBounds_toArray, List.set_cons_zero, List.set_cons_succ]
            refine pure_ (i := 1) (N := some 122) (v := .int .i64 (j : Int)) #[true, true, false, false, false, false, false, false, false, false, false, false, false, false, false, false, false, false] rfl rfl (by kernel_rfl) (fun _ _ _ h => h) (Or.inl ⟨by rfl, fun w' => by go_simp⟩) rfl ?_
            simp only [Act.put, List.setIfInBounds_toArray, List.set_cons_zero, List.set_cons_succ]
            refine pure_ (i := 3) (N := some 124) (v := .int .i64 0) #[true, true, false, true, false, false, false, false, false, false, false, false, false, false, false, false, false, false] rfl rfl (by kernel_rfl) (fun _ _ _ h => h) (Or.inl ⟨by rfl, fun w' => by go_simp⟩) rfl ?_
            simp only [Act.put, List.setIfInBounds_toArray, List.set_cons_zero, List.set_cons_succ]
            refine one_ (i := 2) (N := some 123) #[true, true, true, true, false, false, false, false, false, false, false, false, false, false, false, false, false, false] rfl rfl (by kernel_rfl) (by simp) (fun K hK => ?_)
            refine goes_ Try.func11 (by kernel_rfl) rfl #[.pointer (some ⟨w.heap.size, 0, none⟩), .int .i64 (j : Int)] (by rfl) rfl rfl (by simp only [List.map_toArray, List.map_cons, List.map_nil]; rfl) ?_
            refine (len_any (HP.out.rep.keep (w' := wr.drew) (fun _ _ _ => rfl)) (j : Int)).mono ?_
            rintro e w3 ⟨rfl, rfl⟩
            rw [if_pos (show (0 : Int) ≤ (j : Int) by omega), Int.toNat_natCast, List.getD_eq_getElem?_getD, List.getElem?_eq_none (by omega : L.length ≤ j), show ((none : Option (List (List Int))).getD []).length = 0 from rfl]
            refine ⟨_, rfl, hK.out _ _ hHeld (fun hHeld1 => ?_)⟩
            clear hK K
            simp only [Act.put, List.setIfInBounds_toArray, List.set_cons_zero, List.set_cons_succ]
            refine pure_ (i := 4) (N := some 125) (v := .bool true) #[true, true, true, true, true, false, false, false, false, false, false, false, false, false, false, false, false, false] rfl rfl (by kernel_rfl) (fun _ _ _ h => h) (Or.inl ⟨by rfl, fun w' => by go_simp⟩) rfl ?_
            simp only [Act.put, List.setIfInBounds_toArray, List.set_cons_zero, List.set_cons_succ]
            refine pure_ (i := 5) (N := some 126) (v := .bool true) #[true, true, true, true, true, true, false, false, false, false, false, false, false, false, false, false, false, false] rfl rfl (by kernel_rfl) (fun _ _ _ h => h) (Or.inl ⟨by rfl, fun w' => by go_simp⟩) rfl ?_
            simp only [Act.put, List.setIfInBounds_toArray, List.set_cons_zero, List.set_cons_succ]
            refine pure_ (i := 6) (N := some 127) (v := .pointer (some ⟨w.heap.size, 0, none⟩)) #[true, true, true, true, true, true, true, false, false, false, false, false, false, false, false, false, false, false] rfl rfl (by kernel_rfl) (fun _ _ _ h => h) (Or.inl ⟨by rfl, fun w' => by go_simp⟩) rfl ?_
            simp only [Act.put, List.setIfInBounds_toArray, List.set_cons_zero, List.set_cons_succ]
            refine pure_ (i := 8) (N := some 129) (v := .pointer (some ⟨pr, 0, none⟩)) #[true, true, true, true, true, true, true, false, true, false, false, false, false, false, false, false, false, false] rfl rfl (by kernel_rfl) (fun _ _ _ h => h) (Or.inl ⟨by rfl, fun w' => by go_simp⟩) rfl ?_
            simp only [Act.put, List.setIfInBounds_toArray, List.set_cons_zero, List.set_cons_succ]
            refine pure_ (i := 9) (N := some 130) (v := .pointer (some ⟨pr, 0, none⟩)) #[true, true, true, true, true, true, true, false, true, true, false, false, false, false, false, false, false, false] rfl rfl (by kernel_rfl) (fun _ _ _ h => h) (Or.inl ⟨by rfl, fun w' => by go_simp⟩) rfl ?_
            simp only [Act.put, List.setIfInBounds_toArray, List.set_cons_zero, List.set_cons_succ]
            refine pure_ (i := 10) (N := some 131) (v := .pointer (some ⟨pr, 3, none⟩)) #[true, true, true, true, true, true, true, false, true, true, true, false, false, false, false, false, false, false] rfl rfl (by kernel_rfl) (fun _ _ _ h => h) (Or.inl ⟨by rfl, fun w' => by go_simp⟩) rfl ?_
            simp only [Act.put, List.setIfInBounds_toArray, List.set_cons_zero, List.set_cons_succ]
            refine take_ (i := 11) (N := some 132) (v := .int .i64 lost) #[true, true, true, true, true, true, true, false, true, true, true, true, false, false, false, false, false, false] rfl rfl (by kernel_rfl) (fun _ _ _ h => h) (Or.inl ⟨by rfl, fun w' hw' => by have hc := cell_of_row w' pr 3 _ _ _ (hw'.trans HP.out.ref.pb); go_simp⟩) hHeld rfl ?_
            simp only [Act.put, List.setIfInBounds_toArray, List.set_cons_zero, List.set_cons_succ]
            refine one_ (i := 7) (N := some 128) #[true, true, true, true, true, true, true, true, true, true, true, true, false, false, false, false, false, false] rfl rfl (by kernel_rfl) (by simp) (fun K hK => ?_)
            refine goes_ Try.func12 (by kernel_rfl) rfl #[.pointer (some ⟨w.heap.size, 0, none⟩)] (by rfl) rfl rfl (by simp only [List.map_toArray, List.map_cons, List.map_nil]; rfl) ?_
            refine (lost_any (HP.out.rep.keep (w' := wr.drew) (fun _ _ _ => rfl))).mono ?_
            rintro e w3 ⟨rfl, rfl⟩
            refine ⟨_, rfl, hK.out _ _ hHeld (fun hHeld2 => ?_)⟩
            clear hK K
            simp only [Act.put, List.setIfInBounds_toArray, List.set_cons_zero, List.set_cons_succ]
            refine pure_ (i := 12) (N := some 133) (v := .bool true) #[true, true, true, true, true, true, true, true, true, true, true, true, true, false, false, false, false, false] rfl rfl (by kernel_rfl) (fun _ _ _ h => h) (Or.inl ⟨by rfl, fun w' => by go_simp⟩) rfl ?_
            simp only [Act.put, List.setIfInBounds_toArray, List.set_cons_zero, List.set_cons_succ]
            refine pure_ (i := 13) (N := some 134) (v := .bool true) #[true, true, true, true, true, true, true, true, true, true, true, true, true, true, false, false, false, false] rfl rfl (by kernel_rfl) (fun _ _ _ h => h) (Or.inl ⟨by rfl, fun w' => by go_simp⟩) rfl ?_
            simp only [Act.put, List.setIfInBounds_toArray, List.set_cons_zero, List.set_cons_succ]
            refine pure_ (i := 14) (N := some 135) (v := .bool true) #[true, true, true, true, true, true, true, true, true, true, true, true, true, true, true, false, false, false] rfl rfl (by kernel_rfl) (fun _ _ _ h => h) (Or.inl ⟨by rfl, fun w' => by go_simp⟩) rfl ?_
            simp only [Act.put, List.setIfInBounds_toArray, List.set_cons_zero, List.set_cons_succ]
            refine one_ (i := 15) (N := some 136) #[true, true, true, true, true, true, true, true, true, true, true, true, true, true, true, true, false, false] rfl rfl (by kernel_rfl) (by simp) (fun K hK => ?_)
            refine goes_ Try.func3 (by kernel_rfl) rfl #[] (by rfl) rfl rfl (by simp only [List.map_toArray, List.map_nil]) ?_
            refine (runs_any wr.drew).mono ?_
            rintro e w9 ⟨rfl, hb9⟩
            refine ⟨_, rfl, hK.out _ _ (hb9.block pr (Array.getElem?_eq_some_iff.1 HP.out.ref.pb).1) (fun hHeld3 => ?_)⟩
            clear hK K
            simp only [Act.put, List.setIfInBounds_toArray, List.set_cons_zero, List.set_cons_succ]
            refine pure_ (i := 16) (N := some 137) (v := .bool true) #[true, true, true, true, true, true, true, true, true, true, true, true, true, true, true, true, true, false] rfl rfl (by kernel_rfl) (fun _ _ _ h => h) (Or.inl ⟨by rfl, fun w' => by go_simp⟩) rfl ?_
            simp only [Act.put, List.setIfInBounds_toArray, List.set_cons_zero, List.set_cons_succ]
            refine pure_ (i := 17) (N := some 8) (v := .bool true) #[true, true, true, true, true, true, true, true, true, true, true, true, true, true, true, true, true, true] rfl rfl (by kernel_rfl) (fun _ _ _ h => h) (Or.inl ⟨by rfl, fun w' => by go_simp⟩) rfl ?_
            simp only [Act.put, List.setIfInBounds_toArray, List.set_cons_zero, List.set_cons_succ]
            refine done_ (by kernel_rfl) ?_
            go_wp2_with fail
            go_ret
            exact ⟨rfl, (HP.out.same.below (Nat.le_refl _) (fun k hk => hk)).trans (Below.mono (show Below wr.heap.size wr w9 from ⟨hb9.os, hb9.tape, hb9.output, hb9.size, hb9.block⟩) HP.out.same.size)⟩
        · have hat0' : decide ((0 : Int) ≤ at_) = false := by simp; omega
          go_wp2_with fail
          refine start_ (n := 18) (S := fun W' => W'.heap[pr]? = wr.heap[pr]?) (ds := []) #[false, false, false, false, false, false, false, false, false, false, false, false, false, false, false, false, false, false] (by kernel_rfl) rfl rfl rfl (fun hHeld => ?_)
          refine pure_ (i := 0) (N := some 121) (v := .pointer (some ⟨w.heap.size, 0, none⟩)) #[true, false, false, false, false, false, false, false, false, false, false, false, false, false, false, false, false, false] rfl rfl (by kernel_rfl) (fun _ _ _ h => h) (Or.inl ⟨by rfl, fun w' => by go_simp⟩) rfl ?_
          simp only [Act.put, List.setIfInBounds_toArray, List.set_cons_zero, List.set_cons_succ]
          refine pure_ (i := 1) (N := some 122) (v := .int .i64 at_) #[true, true, false, false, false, false, false, false, false, false, false, false, false, false, false, false, false, false] rfl rfl (by kernel_rfl) (fun _ _ _ h => h) (Or.inl ⟨by rfl, fun w' => by go_simp⟩) rfl ?_
          simp only [Act.put, List.setIfInBounds_toArray, List.set_cons_zero, List.set_cons_succ]
          refine pure_ (i := 3) (N := some 124) (v := .int .i64 0) #[true, true, false, true, false, false, false, false, false, false, false, false, false, false, false, false, false, false] rfl rfl (by kernel_rfl) (fun _ _ _ h => h) (Or.inl ⟨by rfl, fun w' => by go_simp⟩) rfl ?_
          simp only [Act.put, List.setIfInBounds_toArray, List.set_cons_zero, List.set_cons_succ]
          refine one_ (i := 2) (N := some 123) #[true, true, true, true, false, false, false, false, false, false, false, false, false, false, false, false, false, false] rfl rfl (by kernel_rfl) (by simp) (fun K hK => ?_)
          refine goes_ Try.func11 (by kernel_rfl) rfl #[.pointer (some ⟨w.heap.size, 0, none⟩), .int .i64 at_] (by rfl) rfl rfl (by simp only [List.map_toArray, List.map_cons, List.map_nil]; rfl) ?_
          refine (len_any (HP.out.rep.keep (w' := wr.drew) (fun _ _ _ => rfl)) at_).mono ?_
          rintro e w3 ⟨rfl, rfl⟩
          rw [if_neg (show ¬ (0 : Int) ≤ at_ by omega)]
          refine ⟨_, rfl, hK.out _ _ hHeld (fun hHeld1 => ?_)⟩
          clear hK K
          simp only [Act.put, List.setIfInBounds_toArray, List.set_cons_zero, List.set_cons_succ]
          refine pure_ (i := 4) (N := some 125) (v := .bool true) #[true, true, true, true, true, false, false, false, false, false, false, false, false, false, false, false, false, false] rfl rfl (by kernel_rfl) (fun _ _ _ h => h) (Or.inl ⟨by rfl, fun w' => by go_simp⟩) rfl ?_
          simp only [Act.put, List.setIfInBounds_toArray, List.set_cons_zero, List.set_cons_succ]
          refine pure_ (i := 5) (N := some 126) (v := .bool true) #[true, true, true, true, true, true, false, false, false, false, false, false, false, false, false, false, false, false] rfl rfl (by kernel_rfl) (fun _ _ _ h => h) (Or.inl ⟨by rfl, fun w' => by go_simp⟩) rfl ?_
          simp only [Act.put, List.setIfInBounds_toArray, List.set_cons_zero, List.set_cons_succ]
          refine pure_ (i := 6) (N := some 127) (v := .pointer (some ⟨w.heap.size, 0, none⟩)) #[true, true, true, true, true, true, true, false, false, false, false, false, false, false, false, false, false, false] rfl rfl (by kernel_rfl) (fun _ _ _ h => h) (Or.inl ⟨by rfl, fun w' => by go_simp⟩) rfl ?_
          simp only [Act.put, List.setIfInBounds_toArray, List.set_cons_zero, List.set_cons_succ]
          refine pure_ (i := 8) (N := some 129) (v := .pointer (some ⟨pr, 0, none⟩)) #[true, true, true, true, true, true, true, false, true, false, false, false, false, false, false, false, false, false] rfl rfl (by kernel_rfl) (fun _ _ _ h => h) (Or.inl ⟨by rfl, fun w' => by go_simp⟩) rfl ?_
          simp only [Act.put, List.setIfInBounds_toArray, List.set_cons_zero, List.set_cons_succ]
          refine pure_ (i := 9) (N := some 130) (v := .pointer (some ⟨pr, 0, none⟩)) #[true, true, true, true, true, true, true, false, true, true, false, false, false, false, false, false, false, false] rfl rfl (by kernel_rfl) (fun _ _ _ h => h) (Or.inl ⟨by rfl, fun w' => by go_simp⟩) rfl ?_
          simp only [Act.put, List.setIfInBounds_toArray, List.set_cons_zero, List.set_cons_succ]
          refine pure_ (i := 10) (N := some 131) (v := .pointer (some ⟨pr, 3, none⟩)) #[true, true, true, true, true, true, true, false, true, true, true, false, false, false, false, false, false, false] rfl rfl (by kernel_rfl) (fun _ _ _ h => h) (Or.inl ⟨by rfl, fun w' => by go_simp⟩) rfl ?_
          simp only [Act.put, List.setIfInBounds_toArray, List.set_cons_zero, List.set_cons_succ]
          refine take_ (i := 11) (N := some 132) (v := .int .i64 lost) #[true, true, true, true, true, true, true, false, true, true, true, true, false, false, false, false, false, false] rfl rfl (by kernel_rfl) (fun _ _ _ h => h) (Or.inl ⟨by rfl, fun w' hw' => by have hc := cell_of_row w' pr 3 _ _ _ (hw'.trans HP.out.ref.pb); go_simp⟩) hHeld rfl ?_
          simp only [Act.put, List.setIfInBounds_toArray, List.set_cons_zero, List.set_cons_succ]
          refine one_ (i := 7) (N := some 128) #[true, true, true, true, true, true, true, true, true, true, true, true, false, false, false, false, false, false] rfl rfl (by kernel_rfl) (by simp) (fun K hK => ?_)
          refine goes_ Try.func12 (by kernel_rfl) rfl #[.pointer (some ⟨w.heap.size, 0, none⟩)] (by rfl) rfl rfl (by simp only [List.map_toArray, List.map_cons, List.map_nil]; rfl) ?_
          refine (lost_any (HP.out.rep.keep (w' := wr.drew) (fun _ _ _ => rfl))).mono ?_
          rintro e w3 ⟨rfl, rfl⟩
          refine ⟨_, rfl, hK.out _ _ hHeld (fun hHeld2 => ?_)⟩
          clear hK K
          simp only [Act.put, List.setIfInBounds_toArray, List.set_cons_zero, List.set_cons_succ]
          refine pure_ (i := 12) (N := some 133) (v := .bool true) #[true, true, true, true, true, true, true, true, true, true, true, true, true, false, false, false, false, false] rfl rfl (by kernel_rfl) (fun _ _ _ h => h) (Or.inl ⟨by rfl, fun w' => by go_simp⟩) rfl ?_
          simp only [Act.put, List.setIfInBounds_toArray, List.set_cons_zero, List.set_cons_succ]
          refine pure_ (i := 13) (N := some 134) (v := .bool true) #[true, true, true, true, true, true, true, true, true, true, true, true, true, true, false, false, false, false] rfl rfl (by kernel_rfl) (fun _ _ _ h => h) (Or.inl ⟨by rfl, fun w' => by go_simp⟩) rfl ?_
          simp only [Act.put, List.setIfInBounds_toArray, List.set_cons_zero, List.set_cons_succ]
          refine pure_ (i := 14) (N := some 135) (v := .bool true) #[true, true, true, true, true, true, true, true, true, true, true, true, true, true, true, false, false, false] rfl rfl (by kernel_rfl) (fun _ _ _ h => h) (Or.inl ⟨by rfl, fun w' => by go_simp⟩) rfl ?_
          simp only [Act.put, List.setIfInBounds_toArray, List.set_cons_zero, List.set_cons_succ]
          refine one_ (i := 15) (N := some 136) #[true, true, true, true, true, true, true, true, true, true, true, true, true, true, true, true, false, false] rfl rfl (by kernel_rfl) (by simp) (fun K hK => ?_)
          refine goes_ Try.func3 (by kernel_rfl) rfl #[] (by rfl) rfl rfl (by simp only [List.map_toArray, List.map_nil]) ?_
          refine (runs_any wr.drew).mono ?_
          rintro e w9 ⟨rfl, hb9⟩
          refine ⟨_, rfl, hK.out _ _ (hb9.block pr (Array.getElem?_eq_some_iff.1 HP.out.ref.pb).1) (fun hHeld3 => ?_)⟩
          clear hK K
          simp only [Act.put, List.setIfInBounds_toArray, List.set_cons_zero, List.set_cons_succ]
          refine pure_ (i := 16) (N := some 137) (v := .bool true) #[true, true, true, true, true, true, true, true, true, true, true, true, true, true, true, true, true, false] rfl rfl (by kernel_rfl) (fun _ _ _ h => h) (Or.inl ⟨by rfl, fun w' => by go_simp⟩) rfl ?_
          simp only [Act.put, List.setIfInBounds_toArray, List.set_cons_zero, List.set_cons_succ]
          refine pure_ (i := 17) (N := some 8) (v := .bool true) #[true, true, true, true, true, true, true, true, true, true, true, true, true, true, true, true, true, true] rfl rfl (by kernel_rfl) (fun _ _ _ h => h) (Or.inl ⟨by rfl, fun w' => by go_simp⟩) rfl ?_
          simp only [Act.put, List.setIfInBounds_toArray, List.set_cons_zero, List.set_cons_succ]
          refine done_ (by kernel_rfl) ?_
          go_wp2_with fail
          go_ret
          exact ⟨rfl, (HP.out.same.below (Nat.le_refl _) (fun k hk => hk)).trans (Below.mono (show Below wr.heap.size wr w9 from ⟨hb9.os, hb9.tape, hb9.output, hb9.size, hb9.block⟩) HP.out.same.size)⟩
end Dk
end Go.Proofs.Ytlhllbnoifppeaa
