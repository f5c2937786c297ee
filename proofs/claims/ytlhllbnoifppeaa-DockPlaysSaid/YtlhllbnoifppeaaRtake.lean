/- The contract of the reference's Take. -/
import Derived.Test.YtlhllbnoifppeaaRput
namespace Go.Proofs.Ytlhllbnoifppeaa
namespace Dk
open Go.RowKit Go.Proofs.YtlhllbnoifppeaaW.PrintLast
set_option maxHeartbeats 4000000
set_option maxRecDepth 100000
theorem RSame.refl (pr gl : Nat) (w : World) : RSame pr gl w w := ⟨rfl, rfl, rfl, Nat.le_refl _, fun _ _ _ _ => rfl⟩
theorem RSame.trans {pr gl : Nat} {a b c : World} (h : RSame pr gl a b) (h' : RSame pr gl b c) : RSame pr gl a c :=
  ⟨h'.os.trans h.os, h'.tape.trans h.tape, h'.output.trans h.output, Nat.le_trans h.size h'.size, fun k hk h1 h2 => (h'.block k (Nat.lt_of_lt_of_le hk h.size) h1 h2).trans (h.block k hk h1 h2)⟩
section
variable {X : Nat → Prop} {w : World} {pr gl room : Nat} {L : List (List (List Int))} {at_ lost : Int}
theorem RRep.gl_ne (h : RRep X w pr gl room L at_ lost) : pr ≠ gl := by
  rintro rfl
  obtain ⟨cur, hg, _⟩ := h.gb
  have := h.pb
  rw [hg] at this
  simp at this
/-- A lane is changed. -/
theorem RRep.took (h : RRep X w pr gl room L at_ lost) {i : Nat} {l0 l : List (List Int)} (hl : L[i]? = some l0) {v : Value} (hv : LaneR X w v l) (N : Nat) :
    RSame pr gl w ((w.drewN N).drew.setCell ⟨gl, i, none⟩ v) ∧ RRep X ((w.drewN N).drew.setCell ⟨gl, i, none⟩ v) pr gl room (L.set i l) at_ lost := by
  have ho : ∀ k, k ≠ gl → ((w.drewN N).drew.setCell ⟨gl, i, none⟩ v).heap[k]? = w.heap[k]? := fun k hk => heap_setCell_other (w.drewN N).drew _ _ _ (fun e => hk e)
  have hiL : i < L.length := (List.getElem?_eq_some_iff.1 hl).1
  obtain ⟨cur, hg, hc⟩ := h.gb
  have kept : Kept X w ((w.drewN N).drew.setCell ⟨gl, i, none⟩ v) := fun k cu t fr hx ht hk => ho k (by
    rintro rfl
    rw [hg] at hk
    simp at hk
    rcases ht with rfl | rfl
    · exact absurd hk.2.1 (by decide)
    · exact absurd hk.2.1 (by decide))
  refine ⟨⟨rfl, rfl, rfl, by simp [World.drewN, World.drew], fun k _ _ h2 => ho k h2⟩, ?_, h.px, h.gx, cur.setIfInBounds i v, ?_, fun j l' hj => ?_⟩
  · rw [ho pr h.gl_ne, h.pb]; simp
  · rw [heap_setCell_same (w.drewN N).drew _ _ _ _ _ hg]
  · by_cases hij : i = j
    · subst hij
      rw [List.getElem?_set_self hiL] at hj
      obtain rfl := Option.some.inj hj
      obtain ⟨v0, hv0, _⟩ := hc i l0 hl
      have hcl := (Array.getElem?_eq_some_iff.1 hv0).1
      exact ⟨v, by simp [hcl], hv.keep (fun _ h => h) kept⟩
    · rw [List.getElem?_set_ne hij] at hj
      obtain ⟨v0, hv0, hr⟩ := hc j l' hj
      refine ⟨v0, ?_, hr.keep (fun _ h => h) kept⟩
      rw [Array.getElem?_setIfInBounds, if_neg hij]
      exact hv0
/-- The first of a lane, and what is left of it. -/
theorem RRep.head (h : RRep X w pr gl room L at_ lost) {i : Nat} {b : List Int} {l : List (List Int)} (hl : L[i]? = some (b :: l)) :
    ∃ g o c u, w.cell? ⟨gl, i, none⟩ = some (.slice (some ⟨g, o, none⟩) (l.length + 1) c) ∧ l.length + 1 ≤ c ∧ w.cell? ⟨g, o, none⟩ = some u ∧ Bts X w u b ∧ (c = 1 → LaneR X w (.slice (some ⟨g, o, none⟩) l.length 0) l) ∧ LaneR X w (.slice (some ⟨g, o + 1, none⟩) l.length (c - 1)) l := by
  obtain ⟨v, _, _, vs, cg, _, _, ⟨A, c, hv, hvc, hAc, hrow⟩, hvl, hvb⟩ := h.at_ hl
  cases vs with
  | nil => simp at hvl
  | cons u us =>
    obtain ⟨g, o, cu, fr, rfl, hx, hg, hc⟩ := hrow (by simp)
    have hul : us.length = l.length := by simpa using hvl
    rw [hv] at cg
    have c0 := cell_of_row w g o _ _ _ hg
    rw [show cu[o]? = some u from hc 0 u rfl] at c0
    rw [List.length_cons, hul] at cg
    simp only [List.length_cons, hul] at hvc
    have hvb' : ∀ (j : Nat) (u : Value) (bs : List Int), us[j]? = some u → l[j]? = some bs → Bts X w u bs := fun j u bs hu hb => hvb (j + 1) u bs hu hb
    have tail : ∀ (A' : Option Addr) (c' : Nat), l.length ≤ c' → A' ≠ none → (0 < us.length → ∃ g o cur fr, A' = some ⟨g, o, none⟩ ∧ X g ∧ w.heap[g]? = some (.cells cur 25 fr) ∧ ∀ j u, us[j]? = some u → cur[o + j]? = some u) → LaneR X w (.slice A' l.length c') l := fun A' c' h1 h2 h3 =>
      ⟨us, ⟨A', c', by rw [hul], by rw [hul]; exact h1, fun e => absurd e h2, h3⟩, hul, hvb'⟩
    refine ⟨g, o, c, u, cg, hvc, c0, hvb 0 u b rfl rfl, fun e => tail _ _ (by omega) (by simp) (fun hp => by omega), tail _ _ (by omega) (by simp) (fun hp => ⟨g, o + 1, cu, fr, rfl, hx, hg, fun j u' hu => ?_⟩)⟩
    have := hc (j + 1) u' hu
    rw [← this]
    congr 1; omega
/-- Which lane is taken from, and where the next look begins. -/
def Fnd (L : List (List (List Int))) (m q at' : Nat) : Prop :=
  (q = 0 ∧ at' = m) ∨ (L[0]? = some [] ∧ ∃ k, k < L.length - 1 ∧ (∀ j, j < k → L[look L.length m j]? = some []) ∧ q = look L.length m k ∧ at' = q % (L.length - 1))
def TakeRel (X : Nat → Prop) (w : World) (pr gl room : Nat) (L : List (List (List Int))) (m : Nat) (lost : Int) (vl vk : Value) (wr : World) : Prop :=
  (∃ k : Nat, k ≤ L.length - 1 ∧ L[0]? = some [] ∧ vl = .int .i64 (-1) ∧ vk = .int .i64 k ∧ wr = w ∧ ∀ j, j < k → L[look L.length m j]? = some []) ∨
  (∃ (q k at' : Nat) (b : List Int) (l : List (List Int)), k ≤ L.length - 1 ∧ vl = .int .i64 q ∧ vk = .int .i64 k ∧ L[q]? = some (b :: l) ∧ Fnd L m q at' ∧ RSame pr gl w wr ∧ RRep X wr pr gl room L at' lost)
theorem rtake_any {m : Nat} (h : RRep X w pr gl room L m lost) (hn1 : 1 ≤ L.length) (hn8 : L.length ≤ 8) (hm : m ≤ 8) :
    Calls Try.prog 14 #[.pointer (some ⟨pr, 0, none⟩)] w fun e w' => RSame pr gl w w' ∧
      ((∃ (q at' : Nat) (b : List Int) (l : List (List Int)) (v : Value), L[q]? = some (b :: l) ∧ Fnd L m q at' ∧ e = .returned (.tuple #[.int .i64 q, v, .bool true]) ∧ Bts X w' v b ∧ RRep X w' pr gl room (L.set q l) at' lost) ∨
      (L[0]? = some [] ∧ (∀ j, j < L.length - 1 → L[look L.length m j]? = some []) ∧ e = .returned (.tuple #[.int .i64 (-1), .slice none 0 0, .bool false]) ∧ RRep X w' pr gl room L m lost)) := by
  have H := Lib.hid h
  have c1 := cell_of_row w pr 1 _ _ _ h.pb
  obtain ⟨n, hn⟩ : ∃ n, L.length = n + 1 := ⟨L.length - 1, by omega⟩
  obtain ⟨l0, hl0⟩ : ∃ l0, L[0]? = some l0 := ⟨_, List.getElem?_eq_getElem (by omega)⟩
  obtain ⟨v0, A0, c0, _, cg0, hv0, _⟩ := h.at_ hl0
  rw [hv0] at cg0
  have hn0' : (0 : Int) < L.length := by omega
  have hnI : (L.length : Int) = n + 1 := by omega
  have key : ∀ vl, ((l0 = [] ∧ vl = .int .i64 (-1)) ∨ (l0 ≠ [] ∧ vl = .int .i64 0)) → TakeRel X w pr gl room L m lost vl (.int .i64 0) w := fun vl hv => by
    rcases hv with ⟨rfl, rfl⟩ | ⟨hne, rfl⟩
    · exact .inl ⟨0, by omega, hl0, rfl, rfl, rfl, fun j hj => by omega⟩
    · obtain ⟨b, l, rfl⟩ : ∃ b l, l0 = b :: l := by
        cases l0 with
        | nil => exact absurd rfl hne
        | cons b l => exact ⟨b, l, rfl⟩
      exact .inr ⟨0, 0, m, b, l, by omega, rfl, rfl, hl0, .inl ⟨rfl, rfl⟩, RSame.refl _ _ _, H.out⟩
  have Key := Lib.hid key
  clear key h hv0
  by_cases hl0e : l0 = []
  · subst hl0e
    have K0 := Lib.hid (Key.out (.int .i64 (-1)) (.inl ⟨rfl, rfl⟩))
    clear Key
    go_enter Try.func14, Try.ntmps14
    go_wp2_with fail
    go_loopw [5, 7] (fun vl vk wr => TakeRel X w pr gl room L m lost vl vk wr) (fun _ vk _ => n + 1 - (intOf vk).toNat)
    case atStart => exact K0.out
    case round =>
      rcases hrel with ⟨k, hk, h00, rfl, rfl, rfl, hall⟩ | ⟨q, k, at', b, l, hk, rfl, rfl, hl, hF, hS, hR⟩
      · by_cases hlt : k < n
        · have hnz : (n : Int) ≠ 0 := by omega
          have e1 : ((m : Int) + ↑k).tmod ↑n = (m + k) % n := Int.tmod_eq_emod_of_nonneg (by omega)
          have e2 : (0 : Int) ≤ ((m : Int) + ↑k) % ↑n := Int.emod_nonneg _ hnz
          have e3 : ((m : Int) + ↑k) % ↑n < n := Int.emod_lt_of_pos _ (by omega)
          obtain ⟨q, hq⟩ : ∃ q, look L.length m k = q := ⟨_, rfl⟩
          have hlk : (1 : Int) + ((m : Int) + ↑k) % ↑n = (q : Nat) := by rw [← hq]; unfold look; rw [hn, Nat.add_sub_cancel]; simp
          have hqL : q < L.length := by omega
          have hqI : (q : Int) < L.length := by omega
          have c2 := cell_of_row wr pr 2 _ _ _ H.out.pb
          have f2 := frozen_of_row wr pr 2 _ _ H.out.pb
          obtain ⟨l', hl'⟩ : ∃ l', L[q]? = some l' := ⟨_, List.getElem?_eq_getElem hqL⟩
          obtain ⟨vq, Aq, cq, _, cgq, hvq, _⟩ := H.out.at_ hl'
          rw [hvq] at cgq
          have hqm : (q : Int).tmod n = (q : Int) % n := Int.tmod_eq_emod_of_nonneg (by omega)
          have Hall := Lib.hid hall; have Hq := Lib.hid hq
          clear hall hq hvq
          cases l' with
          | nil =>
            go_wp2_with fail
            refine ⟨.inl ⟨k + 1, by omega, h00, rfl, by simp, rfl, fun j hj => ?_⟩, by simp [intOf]; omega⟩
            by_cases hjk : j = k
            · rw [hjk, Hq.out]; exact hl'
            · exact Hall.out j (by omega)
          | cons b l =>
            have hpos : (0 : Int) < (l.length : Int) + 1 := by omega
            go_wp2_with fail
            rw [show ((q : Int) % (n : Int)) = ((q % n : Nat) : Int) by simp]
            obtain ⟨f1, f2⟩ := H.out.more_at ((q % n : Nat) : Int)
            refine ⟨.inr ⟨q, k + 1, q % n, b, l, by omega, rfl, by simp, hl', .inr ⟨h00, k, by omega, Hall.out, Hq.out.symm, by rw [hn, Nat.add_sub_cancel]⟩, f1, f2⟩, by simp [intOf]; omega⟩
        · obtain rfl : k = n := by omega
          go_wp2_with fail
          go_ret3
          refine ⟨RSame.refl _ _ _, .inr ⟨h00, fun j hj => hall j (by omega), rfl, H.out⟩⟩
      · have HR := Lib.hid hR; have HS := Lib.hid hS; have HF := Lib.hid hF; have Hl := Lib.hid hl
        clear hR hS hF hl
        by_cases hlt : k < n
        · have dummy := hlt
          obtain ⟨gg, oo, cc, u, cg, hcc, cu, hub, hw1, hw2⟩ := HR.out.head Hl.out
          have cq1 := cell_of_row wr pr 1 _ _ _ HR.out.pb
          obtain ⟨cur, hgl, _⟩ := HR.out.gb
          have hqL : q < L.length := (List.getElem?_eq_some_iff.1 Hl.out).1
          have hqI : (q : Int) < L.length := by omega
          have k3 : (0 : Int) < (l.length : Int) + 1 := by omega
          have k5 : ¬ ((n : Int) + 1 ≤ q) := by omega
          have k6 : (q : Int) < (n : Int) + 1 := by omega
          have k7 : ¬ ((l.length : Int) + 1 < 1) := by omega
          have k8 : (1 : Int) ≤ (l.length : Int) + 1 := by omega
          have dq : decide ((q : Int) < 0) = false := by simp
          have Hub := Lib.hid hub; have Hw1 := Lib.hid hw1; have Hw2 := Lib.hid hw2
          clear hub hw1 hw2
          go_wp2_with fail
          by_cases hc1 : cc = 1
          · subst hc1
            refine start_ (n := 15) (S := fun W' => W'.heap[pr]? = wr.heap[pr]? ∧ W'.heap[gl]? = wr.heap[gl]?) (ds := [14]) #[false, false, false, false, false, false, false, false, false, false, false, false, false, false, false] (by kernel_rfl) rfl rfl ⟨rfl, rfl⟩ (fun hHeld => ?_)
            refine pure_ (i := 0) (N := some 69) (v := .pointer (some ⟨pr, 0, none⟩)) #[true, false, false, false, false, false, false, false, false, false, false, false, false, false, false] rfl rfl (by kernel_rfl) (fun _ _ _ h => h) (Or.inl ⟨by rfl, fun w' => by go_simp⟩) rfl ?_
            simp only [Act.put, List.setIfInBounds_toArray, List.set_cons_zero, List.set_cons_succ]
            refine pure_ (i := 1) (N := some 70) (v := .pointer (some ⟨pr, 0, none⟩)) #[true, true, false, false, false, false, false, false, false, false, false, false, false, false, false] rfl rfl (by kernel_rfl) (fun _ _ _ h => h) (Or.inl ⟨by rfl, fun w' => by go_simp⟩) rfl ?_
            simp only [Act.put, List.setIfInBounds_toArray, List.set_cons_zero, List.set_cons_succ]
            refine pure_ (i := 2) (N := some 71) (v := .pointer (some ⟨pr, 1, none⟩)) #[true, true, true, false, false, false, false, false, false, false, false, false, false, false, false] rfl rfl (by kernel_rfl) (fun _ _ _ h => h) (Or.inl ⟨by rfl, fun w' => by go_simp⟩) rfl ?_
            simp only [Act.put, List.setIfInBounds_toArray, List.set_cons_zero, List.set_cons_succ]
            refine take_ (i := 3) (N := some 72) (v := .slice (some ⟨gl, 0, none⟩) L.length L.length) #[true, true, true, true, false, false, false, false, false, false, false, false, false, false, false] rfl rfl (by kernel_rfl) (fun _ _ _ h => h) (Or.inl ⟨by rfl, fun w' hw' => by have hc := cell_of_row w' pr 1 _ _ _ (hw'.1.trans HR.out.pb); go_simp⟩) hHeld rfl ?_
            simp only [Act.put, List.setIfInBounds_toArray, List.set_cons_zero, List.set_cons_succ]
            refine pure_ (i := 4) (N := some 73) (v := .int .i64 q) #[true, true, true, true, true, false, false, false, false, false, false, false, false, false, false] rfl rfl (by kernel_rfl) (fun _ _ _ h => h) (Or.inl ⟨by rfl, fun w' => by go_simp⟩) rfl ?_
            simp only [Act.put, List.setIfInBounds_toArray, List.set_cons_zero, List.set_cons_succ]
            refine pure_ (i := 5) (N := some 74) (v := .pointer (some ⟨pr, 0, none⟩)) #[true, true, true, true, true, true, false, false, false, false, false, false, false, false, false] rfl rfl (by kernel_rfl) (fun _ _ _ h => h) (Or.inl ⟨by rfl, fun w' => by go_simp⟩) rfl ?_
            simp only [Act.put, List.setIfInBounds_toArray, List.set_cons_zero, List.set_cons_succ]
            refine pure_ (i := 6) (N := some 75) (v := .pointer (some ⟨pr, 0, none⟩)) #[true, true, true, true, true, true, true, false, false, false, false, false, false, false, false] rfl rfl (by kernel_rfl) (fun _ _ _ h => h) (Or.inl ⟨by rfl, fun w' => by go_simp⟩) rfl ?_
            simp only [Act.put, List.setIfInBounds_toArray, List.set_cons_zero, List.set_cons_succ]
            refine pure_ (i := 7) (N := some 76) (v := .pointer (some ⟨pr, 1, none⟩)) #[true, true, true, true, true, true, true, true, false, false, false, false, false, false, false] rfl rfl (by kernel_rfl) (fun _ _ _ h => h) (Or.inl ⟨by rfl, fun w' => by go_simp⟩) rfl ?_
            simp only [Act.put, List.setIfInBounds_toArray, List.set_cons_zero, List.set_cons_succ]
            refine take_ (i := 8) (N := some 77) (v := .slice (some ⟨gl, 0, none⟩) L.length L.length) #[true, true, true, true, true, true, true, true, true, false, false, false, false, false, false] rfl rfl (by kernel_rfl) (fun _ _ _ h => h) (Or.inl ⟨by rfl, fun w' hw' => by have hc := cell_of_row w' pr 1 _ _ _ (hw'.1.trans HR.out.pb); go_simp⟩) hHeld rfl ?_
            simp only [Act.put, List.setIfInBounds_toArray, List.set_cons_zero, List.set_cons_succ]
            refine pure_ (i := 9) (N := some 78) (v := .int .i64 q) #[true, true, true, true, true, true, true, true, true, true, false, false, false, false, false] rfl rfl (by kernel_rfl) (fun _ _ _ h => h) (Or.inl ⟨by rfl, fun w' => by go_simp⟩) rfl ?_
            simp only [Act.put, List.setIfInBounds_toArray, List.set_cons_zero, List.set_cons_succ]
            refine pure_ (i := 10) (N := some 79) (v := .pointer (some ⟨gl, q, none⟩)) #[true, true, true, true, true, true, true, true, true, true, true, false, false, false, false] rfl rfl (by kernel_rfl) (fun _ _ _ h => h) (Or.inl ⟨by rfl, fun w' => by go_simp⟩) rfl ?_
            simp only [Act.put, List.setIfInBounds_toArray, List.set_cons_zero, List.set_cons_succ]
            refine take_ (i := 11) (N := some 80) (v := .slice (some ⟨gg, oo, none⟩) (l.length + 1) 1) #[true, true, true, true, true, true, true, true, true, true, true, true, false, false, false] rfl rfl (by kernel_rfl) (fun _ _ _ h => h) (Or.inl ⟨by rfl, fun w' hw' => by have hc := (World.cell?_of_block (a := ⟨gl, q, none⟩) hw'.2).trans cg; go_simp⟩) hHeld rfl ?_
            simp only [Act.put, List.setIfInBounds_toArray, List.set_cons_zero, List.set_cons_succ]
            refine pure_ (i := 12) (N := some 81) (v := .slice (some ⟨gg, oo, none⟩) l.length 0) #[true, true, true, true, true, true, true, true, true, true, true, true, true, false, false] rfl rfl (by kernel_rfl) (fun _ _ _ h => h) (Or.inl ⟨by rfl, fun w' => by go_simp; omega⟩) rfl ?_
            simp only [Act.put, List.setIfInBounds_toArray, List.set_cons_zero, List.set_cons_succ]
            refine pure_ (i := 13) (N := some 82) (v := .pointer (some ⟨gl, q, none⟩)) #[true, true, true, true, true, true, true, true, true, true, true, true, true, true, false] rfl rfl (by kernel_rfl) (fun _ _ _ h => h) (Or.inl ⟨by rfl, fun w' => by go_simp⟩) rfl ?_
            simp only [Act.put, List.setIfInBounds_toArray, List.set_cons_zero, List.set_cons_succ]
            have c9 : wr.drew.cell? ⟨gl, q, none⟩ = some (.slice (some ⟨gg, oo, none⟩) (l.length + 1) 1) := cg
            have f9 : wr.drew.frozen? ⟨gl, q, none⟩ = false := frozen_of_row wr.drew gl q _ _ hgl
            refine last_ (i := 14) (N := none) #[true, true, true, true, true, true, true, true, true, true, true, true, true, true, true] rfl rfl (by kernel_rfl) (by simp) (fun K hK => ?_)
            rw [if_pos (show Region.wanted _ _ = true from rfl)]
            unfold Oper.wp execOp
            go_simp
            refine hK.out _ _ ?_
            refine done_ (by kernel_rfl) ?_
            go_wp2_with fail
            go_ret3
            have fin := HR.out.took Hl.out ((Hw1.out (by first | rfl | trivial))) 0
            obtain ⟨f1, f2⟩ := fin
            have h4 : ∀ (v : Value) (k : Nat), k ≠ gl → ((wr.drewN 0).drew.setCell ⟨gl, q, none⟩ v).heap[k]? = wr.heap[k]? := fun v k hk => heap_setCell_other (wr.drewN 0).drew _ _ _ (fun e => hk e)
            have hu2 : Bts X ((wr.drewN 0).drew.setCell ⟨gl, q, none⟩ (.slice (some ⟨gg, oo, none⟩) l.length 0)) u b := Hub.out.keep (fun _ h => h) (fun k cu' fr hx hk => h4 _ k (fun e => by
              subst e
              rw [hgl] at hk
              simp at hk))
            first | exact ⟨HS.out.trans f1, .inl ⟨q, at', b, l, Hl.out, HF.out, u, rfl, hu2, f2⟩⟩ | exact ⟨HS.out.trans f1, .inl ⟨q, at', b, l, u, Hl.out, HF.out, rfl, hu2, f2⟩⟩
          · have hc1' : ¬ cc - 1 = 0 := by omega
            refine start_ (n := 15) (S := fun W' => W'.heap[pr]? = wr.heap[pr]? ∧ W'.heap[gl]? = wr.heap[gl]?) (ds := [14]) #[false, false, false, false, false, false, false, false, false, false, false, false, false, false, false] (by kernel_rfl) rfl rfl ⟨rfl, rfl⟩ (fun hHeld => ?_)
            refine pure_ (i := 0) (N := some 69) (v := .pointer (some ⟨pr, 0, none⟩)) #[true, false, false, false, false, false, false, false, false, false, false, false, false, false, false] rfl rfl (by kernel_rfl) (fun _ _ _ h => h) (Or.inl ⟨by rfl, fun w' => by go_simp⟩) rfl ?_
            simp only [Act.put, List.setIfInBounds_toArray, List.set_cons_zero, List.set_cons_succ]
            refine pure_ (i := 1) (N := some 70) (v := .pointer (some ⟨pr, 0, none⟩)) #[true, true, false, false, false, false, false, false, false, false, false, false, false, false, false] rfl rfl (by kernel_rfl) (fun _ _ _ h => h) (Or.inl ⟨by rfl, fun w' => by go_simp⟩) rfl ?_
            simp only [Act.put, List.setIfInBounds_toArray, List.set_cons_zero, List.set_cons_succ]
            refine pure_ (i := 2) (N := some 71) (v := .pointer (some ⟨pr, 1, none⟩)) #[true, true, true, false, false, false, false, false, false, false, false, false, false, false, false] rfl rfl (by kernel_rfl) (fun _ _ _ h => h) (Or.inl ⟨by rfl, fun w' => by go_simp⟩) rfl ?_
            simp only [Act.put, List.setIfInBounds_toArray, List.set_cons_zero, List.set_cons_succ]
            refine take_ (i := 3) (N := some 72) (v := .slice (some ⟨gl, 0, none⟩) L.length L.length) #[true, true, true, true, false, false, false, false, false, false, false, false, false, false, false] rfl rfl (by kernel_rfl) (fun _ _ _ h => h) (Or.inl ⟨by rfl, fun w' hw' => by have hc := cell_of_row w' pr 1 _ _ _ (hw'.1.trans HR.out.pb); go_simp⟩) hHeld rfl ?_
            simp only [Act.put, List.setIfInBounds_toArray, List.set_cons_zero, List.set_cons_succ]
            refine pure_ (i := 4) (N := some 73) (v := .int .i64 q) #[true, true, true, true, true, false, false, false, false, false, false, false, false, false, false] rfl rfl (by kernel_rfl) (fun _ _ _ h => h) (Or.inl ⟨by rfl, fun w' => by go_simp⟩) rfl ?_
            simp only [Act.put, List.setIfInBounds_toArray, List.set_cons_zero, List.set_cons_succ]
            refine pure_ (i := 5) (N := some 74) (v := .pointer (some ⟨pr, 0, none⟩)) #[true, true, true, true, true, true, false, false, false, false, false, false, false, false, false] rfl rfl (by kernel_rfl) (fun _ _ _ h => h) (Or.inl ⟨by rfl, fun w' => by go_simp⟩) rfl ?_
            simp only [Act.put, List.setIfInBounds_toArray, List.set_cons_zero, List.set_cons_succ]
            refine pure_ (i := 6) (N := some 75) (v := .pointer (some ⟨pr, 0, none⟩)) #[true, true, true, true, true, true, true, false, false, false, false, false, false, false, false] rfl rfl (by kernel_rfl) (fun _ _ _ h => h) (Or.inl ⟨by rfl, fun w' => by go_simp⟩) rfl ?_
            simp only [Act.put, List.setIfInBounds_toArray, List.set_cons_zero, List.set_cons_succ]
            refine pure_ (i := 7) (N := some 76) (v := .pointer (some ⟨pr, 1, none⟩)) #[true, true, true, true, true, true, true, true, false, false, false, false, false, false, false] rfl rfl (by kernel_rfl) (fun _ _ _ h => h) (Or.inl ⟨by rfl, fun w' => by go_simp⟩) rfl ?_
            simp only [Act.put, List.setIfInBounds_toArray, List.set_cons_zero, List.set_cons_succ]
            refine take_ (i := 8) (N := some 77) (v := .slice (some ⟨gl, 0, none⟩) L.length L.length) #[true, true, true, true, true, true, true, true, true, false, false, false, false, false, false] rfl rfl (by kernel_rfl) (fun _ _ _ h => h) (Or.inl ⟨by rfl, fun w' hw' => by have hc := cell_of_row w' pr 1 _ _ _ (hw'.1.trans HR.out.pb); go_simp⟩) hHeld rfl ?_
            simp only [Act.put, List.setIfInBounds_toArray, List.set_cons_zero, List.set_cons_succ]
            refine pure_ (i := 9) (N := some 78) (v := .int .i64 q) #[true, true, true, true, true, true, true, true, true, true, false, false, false, false, false] rfl rfl (by kernel_rfl) (fun _ _ _ h => h) (Or.inl ⟨by rfl, fun w' => by go_simp⟩) rfl ?_
            simp only [Act.put, List.setIfInBounds_toArray, List.set_cons_zero, List.set_cons_succ]
            refine pure_ (i := 10) (N := some 79) (v := .pointer (some ⟨gl, q, none⟩)) #[true, true, true, true, true, true, true, true, true, true, true, false, false, false, false] rfl rfl (by kernel_rfl) (fun _ _ _ h => h) (Or.inl ⟨by rfl, fun w' => by go_simp⟩) rfl ?_
            simp only [Act.put, List.setIfInBounds_toArray, List.set_cons_zero, List.set_cons_succ]
            refine take_ (i := 11) (N := some 80) (v := .slice (some ⟨gg, oo, none⟩) (l.length + 1) cc) #[true, true, true, true, true, true, true, true, true, true, true, true, false, false, false] rfl rfl (by kernel_rfl) (fun _ _ _ h => h) (Or.inl ⟨by rfl, fun w' hw' => by have hc := (World.cell?_of_block (a := ⟨gl, q, none⟩) hw'.2).trans cg; go_simp⟩) hHeld rfl ?_
            simp only [Act.put, List.setIfInBounds_toArray, List.set_cons_zero, List.set_cons_succ]
            refine pure_ (i := 12) (N := some 81) (v := .slice (some ⟨gg, oo + 1, none⟩) l.length (cc - 1)) #[true, true, true, true, true, true, true, true, true, true, true, true, true, false, false] rfl rfl (by kernel_rfl) (fun _ _ _ h => h) (Or.inl ⟨by rfl, fun w' => by go_simp⟩) rfl ?_
            simp only [Act.put, List.setIfInBounds_toArray, List.set_cons_zero, List.set_cons_succ]
            refine pure_ (i := 13) (N := some 82) (v := .pointer (some ⟨gl, q, none⟩)) #[true, true, true, true, true, true, true, true, true, true, true, true, true, true, false] rfl rfl (by kernel_rfl) (fun _ _ _ h => h) (Or.inl ⟨by rfl, fun w' => by go_simp⟩) rfl ?_
            simp only [Act.put, List.setIfInBounds_toArray, List.set_cons_zero, List.set_cons_succ]
            have c9 : wr.drew.cell? ⟨gl, q, none⟩ = some (.slice (some ⟨gg, oo, none⟩) (l.length + 1) cc) := cg
            have f9 : wr.drew.frozen? ⟨gl, q, none⟩ = false := frozen_of_row wr.drew gl q _ _ hgl
            refine last_ (i := 14) (N := none) #[true, true, true, true, true, true, true, true, true, true, true, true, true, true, true] rfl rfl (by kernel_rfl) (by simp) (fun K hK => ?_)
            rw [if_pos (show Region.wanted _ _ = true from rfl)]
            unfold Oper.wp execOp
            go_simp
            refine hK.out _ _ ?_
            refine done_ (by kernel_rfl) ?_
            go_wp2_with fail
            go_ret3
            have fin := HR.out.took Hl.out (Hw2.out) 0
            obtain ⟨f1, f2⟩ := fin
            have h4 : ∀ (v : Value) (k : Nat), k ≠ gl → ((wr.drewN 0).drew.setCell ⟨gl, q, none⟩ v).heap[k]? = wr.heap[k]? := fun v k hk => heap_setCell_other (wr.drewN 0).drew _ _ _ (fun e => hk e)
            have hu2 : Bts X ((wr.drewN 0).drew.setCell ⟨gl, q, none⟩ (.slice (some ⟨gg, oo + 1, none⟩) l.length (cc - 1))) u b := Hub.out.keep (fun _ h => h) (fun k cu' fr hx hk => h4 _ k (fun e => by
              subst e
              rw [hgl] at hk
              simp at hk))
            first | exact ⟨HS.out.trans f1, .inl ⟨q, at', b, l, Hl.out, HF.out, u, rfl, hu2, f2⟩⟩ | exact ⟨HS.out.trans f1, .inl ⟨q, at', b, l, u, Hl.out, HF.out, rfl, hu2, f2⟩⟩
        · have dummy := hlt
          obtain ⟨gg, oo, cc, u, cg, hcc, cu, hub, hw1, hw2⟩ := HR.out.head Hl.out
          have cq1 := cell_of_row wr pr 1 _ _ _ HR.out.pb
          obtain ⟨cur, hgl, _⟩ := HR.out.gb
          have hqL : q < L.length := (List.getElem?_eq_some_iff.1 Hl.out).1
          have hqI : (q : Int) < L.length := by omega
          have k3 : (0 : Int) < (l.length : Int) + 1 := by omega
          have k5 : ¬ ((n : Int) + 1 ≤ q) := by omega
          have k6 : (q : Int) < (n : Int) + 1 := by omega
          have k7 : ¬ ((l.length : Int) + 1 < 1) := by omega
          have k8 : (1 : Int) ≤ (l.length : Int) + 1 := by omega
          have dq : decide ((q : Int) < 0) = false := by simp
          have Hub := Lib.hid hub; have Hw1 := Lib.hid hw1; have Hw2 := Lib.hid hw2
          clear hub hw1 hw2
          go_wp2_with fail
          by_cases hc1 : cc = 1
          · subst hc1
            refine start_ (n := 15) (S := fun W' => W'.heap[pr]? = wr.heap[pr]? ∧ W'.heap[gl]? = wr.heap[gl]?) (ds := [14]) #[false, false, false, false, false, false, false, false, false, false, false, false, false, false, false] (by kernel_rfl) rfl rfl ⟨rfl, rfl⟩ (fun hHeld => ?_)
            refine pure_ (i := 0) (N := some 69) (v := .pointer (some ⟨pr, 0, none⟩)) #[true, false, false, false, false, false, false, false, false, false, false, false, false, false, false] rfl rfl (by kernel_rfl) (fun _ _ _ h => h) (Or.inl ⟨by rfl, fun w' => by go_simp⟩) rfl ?_
            simp only [Act.put, List.setIfInBounds_toArray, List.set_cons_zero, List.set_cons_succ]
            refine pure_ (i := 1) (N := some 70) (v := .pointer (some ⟨pr, 0, none⟩)) #[true, true, false, false, false, false, false, false, false, false, false, false, false, false, false] rfl rfl (by kernel_rfl) (fun _ _ _ h => h) (Or.inl ⟨by rfl, fun w' => by go_simp⟩) rfl ?_
            simp only [Act.put, List.setIfInBounds_toArray, List.set_cons_zero, List.set_cons_succ]
            refine pure_ (i := 2) (N := some 71) (v := .pointer (some ⟨pr, 1, none⟩)) #[true, true, true, false, false, false, false, false, false, false, false, false, false, false, false] rfl rfl (by kernel_rfl) (fun _ _ _ h => h) (Or.inl ⟨by rfl, fun w' => by go_simp⟩) rfl ?_
            simp only [Act.put, List.setIfInBounds_toArray, List.set_cons_zero, List.set_cons_succ]
            refine take_ (i := 3) (N := some 72) (v := .slice (some ⟨gl, 0, none⟩) L.length L.length) #[true, true, true, true, false, false, false, false, false, false, false, false, false, false, false] rfl rfl (by kernel_rfl) (fun _ _ _ h => h) (Or.inl ⟨by rfl, fun w' hw' => by have hc := cell_of_row w' pr 1 _ _ _ (hw'.1.trans HR.out.pb); go_simp⟩) hHeld rfl ?_
            simp only [Act.put, List.setIfInBounds_toArray, List.set_cons_zero, List.set_cons_succ]
            refine pure_ (i := 4) (N := some 73) (v := .int .i64 q) #[true, true, true, true, true, false, false, false, false, false, false, false, false, false, false] rfl rfl (by kernel_rfl) (fun _ _ _ h => h) (Or.inl ⟨by rfl, fun w' => by go_simp⟩) rfl ?_
            simp only [Act.put, List.setIfInBounds_toArray, List.set_cons_zero, List.set_cons_succ]
            refine pure_ (i := 5) (N := some 74) (v := .pointer (some ⟨pr, 0, none⟩)) #[true, true, true, true, true, true, false, false, false, false, false, false, false, false, false] rfl rfl (by kernel_rfl) (fun _ _ _ h => h) (Or.inl ⟨by rfl, fun w' => by go_simp⟩) rfl ?_
            simp only [Act.put, List.setIfInBounds_toArray, List.set_cons_zero, List.set_cons_succ]
            refine pure_ (i := 6) (N := some 75) (v := .pointer (some ⟨pr, 0, none⟩)) #[true, true, true, true, true, true, true, false, false, false, false, false, false, false, false] rfl rfl (by kernel_rfl) (fun _ _ _ h => h) (Or.inl ⟨by rfl, fun w' => by go_simp⟩) rfl ?_
            simp only [Act.put, List.setIfInBounds_toArray, List.set_cons_zero, List.set_cons_succ]
            refine pure_ (i := 7) (N := some 76) (v := .pointer (some ⟨pr, 1, none⟩)) #[true, true, true, true, true, true, true, true, false, false, false, false, false, false, false] rfl rfl (by kernel_rfl) (fun _ _ _ h => h) (Or.inl ⟨by rfl, fun w' => by go_simp⟩) rfl ?_
            simp only [Act.put, List.setIfInBounds_toArray, List.set_cons_zero, List.set_cons_succ]
            refine take_ (i := 8) (N := some 77) (v := .slice (some ⟨gl, 0, none⟩) L.length L.length) #[true, true, true, true, true, true, true, true, true, false, false, false, false, false, false] rfl rfl (by kernel_rfl) (fun _ _ _ h => h) (Or.inl ⟨by rfl, fun w' hw' => by have hc := cell_of_row w' pr 1 _ _ _ (hw'.1.trans HR.out.pb); go_simp⟩) hHeld rfl ?_
            simp only [Act.put, List.setIfInBounds_toArray, List.set_cons_zero, List.set_cons_succ]
            refine pure_ (i := 9) (N := some 78) (v := .int .i64 q) #[true, true, true, true, true, true, true, true, true, true, false, false, false, false, false] rfl rfl (by kernel_rfl) (fun _ _ _ h => h) (Or.inl ⟨by rfl, fun w' => by go_simp⟩) rfl ?_
            simp only [Act.put, List.setIfInBounds_toArray, List.set_cons_zero, List.set_cons_succ]
            refine pure_ (i := 10) (N := some 79) (v := .pointer (some ⟨gl, q, none⟩)) #[true, true, true, true, true, true, true, true, true, true, true, false, false, false, false] rfl rfl (by kernel_rfl) (fun _ _ _ h => h) (Or.inl ⟨by rfl, fun w' => by go_simp⟩) rfl ?_
            simp only [Act.put, List.setIfInBounds_toArray, List.set_cons_zero, List.set_cons_succ]
            refine take_ (i := 11) (N := some 80) (v := .slice (some ⟨gg, oo, none⟩) (l.length + 1) 1) #[true, true, true, true, true, true, true, true, true, true, true, true, false, false, false] rfl rfl (by kernel_rfl) (fun _ _ _ h => h) (Or.inl ⟨by rfl, fun w' hw' => by have hc := (World.cell?_of_block (a := ⟨gl, q, none⟩) hw'.2).trans cg; go_simp⟩) hHeld rfl ?_
            simp only [Act.put, List.setIfInBounds_toArray, List.set_cons_zero, List.set_cons_succ]
            refine pure_ (i := 12) (N := some 81) (v := .slice (some ⟨gg, oo, none⟩) l.length 0) #[true, true, true, true, true, true, true, true, true, true, true, true, true, false, false] rfl rfl (by kernel_rfl) (fun _ _ _ h => h) (Or.inl ⟨by rfl, fun w' => by go_simp; omega⟩) rfl ?_
            simp only [Act.put, List.setIfInBounds_toArray, List.set_cons_zero, List.set_cons_succ]
            refine pure_ (i := 13) (N := some 82) (v := .pointer (some ⟨gl, q, none⟩)) #[true, true, true, true, true, true, true, true, true, true, true, true, true, true, false] rfl rfl (by kernel_rfl) (fun _ _ _ h => h) (Or.inl ⟨by rfl, fun w' => by go_simp⟩) rfl ?_
            simp only [Act.put, List.setIfInBounds_toArray, List.set_cons_zero, List.set_cons_succ]
            have c9 : wr.drew.cell? ⟨gl, q, none⟩ = some (.slice (some ⟨gg, oo, none⟩) (l.length + 1) 1) := cg
            have f9 : wr.drew.frozen? ⟨gl, q, none⟩ = false := frozen_of_row wr.drew gl q _ _ hgl
            refine last_ (i := 14) (N := none) #[true, true, true, true, true, true, true, true, true, true, true, true, true, true, true] rfl rfl (by kernel_rfl) (by simp) (fun K hK => ?_)
            rw [if_pos (show Region.wanted _ _ = true from rfl)]
            unfold Oper.wp execOp
            go_simp
            refine hK.out _ _ ?_
            refine done_ (by kernel_rfl) ?_
            go_wp2_with fail
            go_ret3
            have fin := HR.out.took Hl.out ((Hw1.out (by first | rfl | trivial))) 0
            obtain ⟨f1, f2⟩ := fin
            have h4 : ∀ (v : Value) (k : Nat), k ≠ gl → ((wr.drewN 0).drew.setCell ⟨gl, q, none⟩ v).heap[k]? = wr.heap[k]? := fun v k hk => heap_setCell_other (wr.drewN 0).drew _ _ _ (fun e => hk e)
            have hu2 : Bts X ((wr.drewN 0).drew.setCell ⟨gl, q, none⟩ (.slice (some ⟨gg, oo, none⟩) l.length 0)) u b := Hub.out.keep (fun _ h => h) (fun k cu' fr hx hk => h4 _ k (fun e => by
              subst e
              rw [hgl] at hk
              simp at hk))
            first | exact ⟨HS.out.trans f1, .inl ⟨q, at', b, l, Hl.out, HF.out, u, rfl, hu2, f2⟩⟩ | exact ⟨HS.out.trans f1, .inl ⟨q, at', b, l, u, Hl.out, HF.out, rfl, hu2, f2⟩⟩
          · have hc1' : ¬ cc - 1 = 0 := by omega
            refine start_ (n := 15) (S := fun W' => W'.heap[pr]? = wr.heap[pr]? ∧ W'.heap[gl]? = wr.heap[gl]?) (ds := [14]) #[false, false, false, false, false, false, false, false, false, false, false, false, false, false, false] (by kernel_rfl) rfl rfl ⟨rfl, rfl⟩ (fun hHeld => ?_)
            refine pure_ (i := 0) (N := some 69) (v := .pointer (some ⟨pr, 0, none⟩)) #[true, false, false, false, false, false, false, false, false, false, false, false, false, false, false] rfl rfl (by kernel_rfl) (fun _ _ _ h => h) (Or.inl ⟨by rfl, fun w' => by go_simp⟩) rfl ?_
            simp only [Act.put, List.setIfInBounds_toArray, List.set_cons_zero, List.set_cons_succ]
            refine pure_ (i := 1) (N := some 70) (v := .pointer (some ⟨pr, 0, none⟩)) #[true, true, false, false, false, false, false, false, false, false, false, false, false, false, false] rfl rfl (by kernel_rfl) (fun _ _ _ h => h) (Or.inl ⟨by rfl, fun w' => by go_simp⟩) rfl ?_
            simp only [Act.put, List.setIfInBounds_toArray, List.set_cons_zero, List.set_cons_succ]
            refine pure_ (i := 2) (N := some 71) (v := .pointer (some ⟨pr, 1, none⟩)) #[true, true, true, false, false, false, false, false, false, false, false, false, false, false, false] rfl rfl (by kernel_rfl) (fun _ _ _ h => h) (Or.inl ⟨by rfl, fun w' => by go_simp⟩) rfl ?_
            simp only [Act.put, List.setIfInBounds_toArray, List.set_cons_zero, List.set_cons_succ]
            refine take_ (i := 3) (N := some 72) (v := .slice (some ⟨gl, 0, none⟩) L.length L.length) #[true, true, true, true, false, false, false, false, false, false, false, false, false, false, false] rfl rfl (by kernel_rfl) (fun _ _ _ h => h) (Or.inl ⟨by rfl, fun w' hw' => by have hc := cell_of_row w' pr 1 _ _ _ (hw'.1.trans HR.out.pb); go_simp⟩) hHeld rfl ?_
            simp only [Act.put, List.setIfInBounds_toArray, List.set_cons_zero, List.set_cons_succ]
            refine pure_ (i := 4) (N := some 73) (v := .int .i64 q) #[true, true, true, true, true, false, false, false, false, false, false, false, false, false, false] rfl rfl (by kernel_rfl) (fun _ _ _ h => h) (Or.inl ⟨by rfl, fun w' => by go_simp⟩) rfl ?_
            simp only [Act.put, List.setIfInBounds_toArray, List.set_cons_zero, List.set_cons_succ]
            refine pure_ (i := 5) (N := some 74) (v := .pointer (some ⟨pr, 0, none⟩)) #[true, true, true, true, true, true, false, false, false, false, false, false, false, false, false] rfl rfl (by kernel_rfl) (fun _ _ _ h => h) (Or.inl ⟨by rfl, fun w' => by go_simp⟩) rfl ?_
            simp only [Act.put, List.setIfInBounds_toArray, List.set_cons_zero, List.set_cons_succ]
            refine pure_ (i := 6) (N := some 75) (v := .pointer (some ⟨pr, 0, none⟩)) #[true, true, true, true, true, true, true, false, false, false, false, false, false, false, false] rfl rfl (by kernel_rfl) (fun _ _ _ h => h) (Or.inl ⟨by rfl, fun w' => by go_simp⟩) rfl ?_
            simp only [Act.put, List.setIfInBounds_toArray, List.set_cons_zero, List.set_cons_succ]
            refine pure_ (i := 7) (N := some 76) (v := .pointer (some ⟨pr, 1, none⟩)) #[true, true, true, true, true, true, true, true, false, false, false, false, false, false, false] rfl rfl (by kernel_rfl) (fun _ _ _ h => h) (Or.inl ⟨by rfl, fun w' => by go_simp⟩) rfl ?_
            simp only [Act.put, List.setIfInBounds_toArray, List.set_cons_zero, List.set_cons_succ]
            refine take_ (i := 8) (N := some 77) (v := .slice (some ⟨gl, 0, none⟩) L.length L.length) #[true, true, true, true, true, true, true, true, true, false, false, false, false, false, false] rfl rfl (by kernel_rfl) (fun _ _ _ h => h) (Or.inl ⟨by rfl, fun w' hw' => by have hc := cell_of_row w' pr 1 _ _ _ (hw'.1.trans HR.out.pb); go_simp⟩) hHeld rfl ?_
            simp only [Act.put, List.setIfInBounds_toArray, List.set_cons_zero, List.set_cons_succ]
            refine pure_ (i := 9) (N := some 78) (v := .int .i64 q) #[true, true, true, true, true, true, true, true, true, true, false, false, false, false, false] rfl rfl (by kernel_rfl) (fun _ _ _ h => h) (Or.inl ⟨by rfl, fun w' => by go_simp⟩) rfl ?_
            simp only [Act.put, List.setIfInBounds_toArray, List.set_cons_zero, List.set_cons_succ]
            refine pure_ (i := 10) (N := some 79) (v := .pointer (some ⟨gl, q, none⟩)) #[true, true, true, true, true, true, true, true, true, true, true, false, false, false, false] rfl rfl (by kernel_rfl) (fun _ _ _ h => h) (Or.inl ⟨by rfl, fun w' => by go_simp⟩) rfl ?_
            simp only [Act.put, List.setIfInBounds_toArray, List.set_cons_zero, List.set_cons_succ]
            refine take_ (i := 11) (N := some 80) (v := .slice (some ⟨gg, oo, none⟩) (l.length + 1) cc) #[true, true, true, true, true, true, true, true, true, true, true, true, false, false, false] rfl rfl (by kernel_rfl) (fun _ _ _ h => h) (Or.inl ⟨by rfl, fun w' hw' => by have hc := (World.cell?_of_block (a := ⟨gl, q, none⟩) hw'.2).trans cg; go_simp⟩) hHeld rfl ?_
            simp only [Act.put, List.setIfInBounds_toArray, List.set_cons_zero, List.set_cons_succ]
            refine pure_ (i := 12) (N := some 81) (v := .slice (some ⟨gg, oo + 1, none⟩) l.length (cc - 1)) #[true, true, true, true, true, true, true, true, true, true, true, true, true, false, false] rfl rfl (by kernel_rfl) (fun _ _ _ h => h) (Or.inl ⟨by rfl, fun w' => by go_simp⟩) rfl ?_
            simp only [Act.put, List.setIfInBounds_toArray, List.set_cons_zero, List.set_cons_succ]
            refine pure_ (i := 13) (N := some 82) (v := .pointer (some ⟨gl, q, none⟩)) #[true, true, true, true, true, true, true, true, true, true, true, true, true, true, false] rfl rfl (by kernel_rfl) (fun _ _ _ h => h) (Or.inl ⟨by rfl, fun w' => by go_simp⟩) rfl ?_
            simp only [Act.put, List.setIfInBounds_toArray, List.set_cons_zero, List.set_cons_succ]
            have c9 : wr.drew.cell? ⟨gl, q, none⟩ = some (.slice (some ⟨gg, oo, none⟩) (l.length + 1) cc) := cg
            have f9 : wr.drew.frozen? ⟨gl, q, none⟩ = false := frozen_of_row wr.drew gl q _ _ hgl
            refine last_ (i := 14) (N := none) #[true, true, true, true, true, true, true, true, true, true, true, true, true, true, true] rfl rfl (by kernel_rfl) (by simp) (fun K hK => ?_)
            rw [if_pos (show Region.wanted _ _ = true from rfl)]
            unfold Oper.wp execOp
            go_simp
            refine hK.out _ _ ?_
            refine done_ (by kernel_rfl) ?_
            go_wp2_with fail
            go_ret3
            have fin := HR.out.took Hl.out (Hw2.out) 0
            obtain ⟨f1, f2⟩ := fin
            have h4 : ∀ (v : Value) (k : Nat), k ≠ gl → ((wr.drewN 0).drew.setCell ⟨gl, q, none⟩ v).heap[k]? = wr.heap[k]? := fun v k hk => heap_setCell_other (wr.drewN 0).drew _ _ _ (fun e => hk e)
            have hu2 : Bts X ((wr.drewN 0).drew.setCell ⟨gl, q, none⟩ (.slice (some ⟨gg, oo + 1, none⟩) l.length (cc - 1))) u b := Hub.out.keep (fun _ h => h) (fun k cu' fr hx hk => h4 _ k (fun e => by
              subst e
              rw [hgl] at hk
              simp at hk))
            first | exact ⟨HS.out.trans f1, .inl ⟨q, at', b, l, Hl.out, HF.out, u, rfl, hu2, f2⟩⟩ | exact ⟨HS.out.trans f1, .inl ⟨q, at', b, l, u, Hl.out, HF.out, rfl, hu2, f2⟩⟩
  · have hpos : decide ((0 : Int) < l0.length) = true := by
      cases l0 with
      | nil => exact absurd rfl hl0e
      | cons x xs => simp
    have hpos' : (0 : Int) < l0.length := by simpa using hpos
    have K0 := Lib.hid (Key.out (.int .i64 0) (.inr ⟨hl0e, rfl⟩))
    clear Key
    go_enter Try.func14, Try.ntmps14
    go_wp2_with fail
    go_loopw [5, 7] (fun vl vk wr => TakeRel X w pr gl room L m lost vl vk wr) (fun _ vk _ => n + 1 - (intOf vk).toNat)
    case atStart => exact K0.out
    case round =>
      rcases hrel with ⟨k, hk, h00, rfl, rfl, rfl, hall⟩ | ⟨q, k, at', b, l, hk, rfl, rfl, hl, hF, hS, hR⟩
      · by_cases hlt : k < n
        · have hnz : (n : Int) ≠ 0 := by omega
          have e1 : ((m : Int) + ↑k).tmod ↑n = (m + k) % n := Int.tmod_eq_emod_of_nonneg (by omega)
          have e2 : (0 : Int) ≤ ((m : Int) + ↑k) % ↑n := Int.emod_nonneg _ hnz
          have e3 : ((m : Int) + ↑k) % ↑n < n := Int.emod_lt_of_pos _ (by omega)
          obtain ⟨q, hq⟩ : ∃ q, look L.length m k = q := ⟨_, rfl⟩
          have hlk : (1 : Int) + ((m : Int) + ↑k) % ↑n = (q : Nat) := by rw [← hq]; unfold look; rw [hn, Nat.add_sub_cancel]; simp
          have hqL : q < L.length := by omega
          have hqI : (q : Int) < L.length := by omega
          have c2 := cell_of_row wr pr 2 _ _ _ H.out.pb
          have f2 := frozen_of_row wr pr 2 _ _ H.out.pb
          obtain ⟨l', hl'⟩ : ∃ l', L[q]? = some l' := ⟨_, List.getElem?_eq_getElem hqL⟩
          obtain ⟨vq, Aq, cq, _, cgq, hvq, _⟩ := H.out.at_ hl'
          rw [hvq] at cgq
          have hqm : (q : Int).tmod n = (q : Int) % n := Int.tmod_eq_emod_of_nonneg (by omega)
          have Hall := Lib.hid hall; have Hq := Lib.hid hq
          clear hall hq hvq
          cases l' with
          | nil =>
            go_wp2_with fail
            refine ⟨.inl ⟨k + 1, by omega, h00, rfl, by simp, rfl, fun j hj => ?_⟩, by simp [intOf]; omega⟩
            by_cases hjk : j = k
            · rw [hjk, Hq.out]; exact hl'
            · exact Hall.out j (by omega)
          | cons b l =>
            have hpos : (0 : Int) < (l.length : Int) + 1 := by omega
            go_wp2_with fail
            rw [show ((q : Int) % (n : Int)) = ((q % n : Nat) : Int) by simp]
            obtain ⟨f1, f2⟩ := H.out.more_at ((q % n : Nat) : Int)
            refine ⟨.inr ⟨q, k + 1, q % n, b, l, by omega, rfl, by simp, hl', .inr ⟨h00, k, by omega, Hall.out, Hq.out.symm, by rw [hn, Nat.add_sub_cancel]⟩, f1, f2⟩, by simp [intOf]; omega⟩
        · obtain rfl : k = n := by omega
          go_wp2_with fail
          go_ret3
          refine ⟨RSame.refl _ _ _, .inr ⟨h00, fun j hj => hall j (by omega), rfl, H.out⟩⟩
      · have HR := Lib.hid hR; have HS := Lib.hid hS; have HF := Lib.hid hF; have Hl := Lib.hid hl
        clear hR hS hF hl
        by_cases hlt : k < n
        · have dummy := hlt
          obtain ⟨gg, oo, cc, u, cg, hcc, cu, hub, hw1, hw2⟩ := HR.out.head Hl.out
          have cq1 := cell_of_row wr pr 1 _ _ _ HR.out.pb
          obtain ⟨cur, hgl, _⟩ := HR.out.gb
          have hqL : q < L.length := (List.getElem?_eq_some_iff.1 Hl.out).1
          have hqI : (q : Int) < L.length := by omega
          have k3 : (0 : Int) < (l.length : Int) + 1 := by omega
          have k5 : ¬ ((n : Int) + 1 ≤ q) := by omega
          have k6 : (q : Int) < (n : Int) + 1 := by omega
          have k7 : ¬ ((l.length : Int) + 1 < 1) := by omega
          have k8 : (1 : Int) ≤ (l.length : Int) + 1 := by omega
          have dq : decide ((q : Int) < 0) = false := by simp
          have Hub := Lib.hid hub; have Hw1 := Lib.hid hw1; have Hw2 := Lib.hid hw2
          clear hub hw1 hw2
          go_wp2_with fail
          by_cases hc1 : cc = 1
          · subst hc1
            refine start_ (n := 15) (S := fun W' => W'.heap[pr]? = wr.heap[pr]? ∧ W'.heap[gl]? = wr.heap[gl]?) (ds := [14]) #[false, false, false, false, false, false, false, false, false, false, false, false, false, false, false] (by kernel_rfl) rfl rfl ⟨rfl, rfl⟩ (fun hHeld => ?_)
            refine pure_ (i := 0) (N := some 69) (v := .pointer (some ⟨pr, 0, none⟩)) #[true, false, false, false, false, false, false, false, false, false, false, false, false, false, false] rfl rfl (by kernel_rfl) (fun _ _ _ h => h) (Or.inl ⟨by rfl, fun w' => by go_simp⟩) rfl ?_
            simp only [Act.put, List.setIfInBounds_toArray, List.set_cons_zero, List.set_cons_succ]
            refine pure_ (i := 1) (N := some 70) (v := .pointer (some ⟨pr, 0, none⟩)) #[true, true, false, false, false, false, false, false, false, false, false, false, false, false, false] rfl rfl (by kernel_rfl) (fun _ _ _ h => h) (Or.inl ⟨by rfl, fun w' => by go_simp⟩) rfl ?_
            simp only [Act.put, List.setIfInBounds_toArray, List.set_cons_zero, List.set_cons_succ]
            refine pure_ (i := 2) (N := some 71) (v := .pointer (some ⟨pr, 1, none⟩)) #[true, true, true, false, false, false, false, false, false, false, false, false, false, false, false] rfl rfl (by kernel_rfl) (fun _ _ _ h => h) (Or.inl ⟨by rfl, fun w' => by go_simp⟩) rfl ?_
            simp only [Act.put, List.setIfInBounds_toArray, List.set_cons_zero, List.set_cons_succ]
            refine take_ (i := 3) (N := some 72) (v := .slice (some ⟨gl, 0, none⟩) L.length L.length) #[true, true, true, true, false, false, false, false, false, false, false, false, false, false, false] rfl rfl (by kernel_rfl) (fun _ _ _ h => h) (Or.inl ⟨by rfl, fun w' hw' => by have hc := cell_of_row w' pr 1 _ _ _ (hw'.1.trans HR.out.pb); go_simp⟩) hHeld rfl ?_
            simp only [Act.put, List.setIfInBounds_toArray, List.set_cons_zero, List.set_cons_succ]
            refine pure_ (i := 4) (N := some 73) (v := .int .i64 q) #[true, true, true, true, true, false, false, false, false, false, false, false, false, false, false] rfl rfl (by kernel_rfl) (fun _ _ _ h => h) (Or.inl ⟨by rfl, fun w' => by go_simp⟩) rfl ?_
            simp only [Act.put, List.setIfInBounds_toArray, List.set_cons_zero, List.set_cons_succ]
            refine pure_ (i := 5) (N := some 74) (v := .pointer (some ⟨pr, 0, none⟩)) #[true, true, true, true, true, true, false, false, false, false, false, false, false, false, false] rfl rfl (by kernel_rfl) (fun _ _ _ h => h) (Or.inl ⟨by rfl, fun w' => by go_simp⟩) rfl ?_
            simp only [Act.put, List.setIfInBounds_toArray, List.set_cons_zero, List.set_cons_succ]
            refine pure_ (i := 6) (N := some 75) (v := .pointer (some ⟨pr, 0, none⟩)) #[true, true, true, true, true, true, true, false, false, false, false, false, false, false, false] rfl rfl (by kernel_rfl) (fun _ _ _ h => h) (Or.inl ⟨by rfl, fun w' => by go_simp⟩) rfl ?_
            simp only [Act.put, List.setIfInBounds_toArray, List.set_cons_zero, List.set_cons_succ]
            refine pure_ (i := 7) (N := some 76) (v := .pointer (some ⟨pr, 1, none⟩)) #[true, true, true, true, true, true, true, true, false, false, false, false, false, false, false] rfl rfl (by kernel_rfl) (fun _ _ _ h => h) (Or.inl ⟨by rfl, fun w' => by go_simp⟩) rfl ?_
            simp only [Act.put, List.setIfInBounds_toArray, List.set_cons_zero, List.set_cons_succ]
            refine take_ (i := 8) (N := some 77) (v := .slice (some ⟨gl, 0, none⟩) L.length L.length) #[true, true, true, true, true, true, true, true, true, false, false, false, false, false, false] rfl rfl (by kernel_rfl) (fun _ _ _ h => h) (Or.inl ⟨by rfl, fun w' hw' => by have hc := cell_of_row w' pr 1 _ _ _ (hw'.1.trans HR.out.pb); go_simp⟩) hHeld rfl ?_
            simp only [Act.put, List.setIfInBounds_toArray, List.set_cons_zero, List.set_cons_succ]
            refine pure_ (i := 9) (N := some 78) (v := .int .i64 q) #[true, true, true, true, true, true, true, true, true, true, false, false, false, false, false] rfl rfl (by kernel_rfl) (fun _ _ _ h => h) (Or.inl ⟨by rfl, fun w' => by go_simp⟩) rfl ?_
            simp only [Act.put, List.setIfInBounds_toArray, List.set_cons_zero, List.set_cons_succ]
            refine pure_ (i := 10) (N := some 79) (v := .pointer (some ⟨gl, q, none⟩)) #[true, true, true, true, true, true, true, true, true, true, true, false, false, false, false] rfl rfl (by kernel_rfl) (fun _ _ _ h => h) (Or.inl ⟨by rfl, fun w' => by go_simp⟩) rfl ?_
            simp only [Act.put, List.setIfInBounds_toArray, List.set_cons_zero, List.set_cons_succ]
            refine take_ (i := 11) (N := some 80) (v := .slice (some ⟨gg, oo, none⟩) (l.length + 1) 1) #[true, true, true, true, true, true, true, true, true, true, true, true, false, false, false] rfl rfl (by kernel_rfl) (fun _ _ _ h => h) (Or.inl ⟨by rfl, fun w' hw' => by have hc := (World.cell?_of_block (a := ⟨gl, q, none⟩) hw'.2).trans cg; go_simp⟩) hHeld rfl ?_
            simp only [Act.put, List.setIfInBounds_toArray, List.set_cons_zero, List.set_cons_succ]
            refine pure_ (i := 12) (N := some 81) (v := .slice (some ⟨gg, oo, none⟩) l.length 0) #[true, true, true, true, true, true, true, true, true, true, true, true, true, false, false] rfl rfl (by kernel_rfl) (fun _ _ _ h => h) (Or.inl ⟨by rfl, fun w' => by go_simp; omega⟩) rfl ?_
            simp only [Act.put, List.setIfInBounds_toArray, List.set_cons_zero, List.set_cons_succ]
            refine pure_ (i := 13) (N := some 82) (v := .pointer (some ⟨gl, q, none⟩)) #[true, true, true, true, true, true, true, true, true, true, true, true, true, true, false] rfl rfl (by kernel_rfl) (fun _ _ _ h => h) (Or.inl ⟨by rfl, fun w' => by go_simp⟩) rfl ?_
            simp only [Act.put, List.setIfInBounds_toArray, List.set_cons_zero, List.set_cons_succ]
            have c9 : wr.drew.cell? ⟨gl, q, none⟩ = some (.slice (some ⟨gg, oo, none⟩) (l.length + 1) 1) := cg
            have f9 : wr.drew.frozen? ⟨gl, q, none⟩ = false := frozen_of_row wr.drew gl q _ _ hgl
            refine last_ (i := 14) (N := none) #[true, true, true, true, true, true, true, true, true, true, true, true, true, true, true] rfl rfl (by kernel_rfl) (by simp) (fun K hK => ?_)
            rw [if_pos (show Region.wanted _ _ = true from rfl)]
            unfold Oper.wp execOp
            go_simp
            refine hK.out _ _ ?_
            refine done_ (by kernel_rfl) ?_
            go_wp2_with fail
            go_ret3
            have fin := HR.out.took Hl.out ((Hw1.out (by first | rfl | trivial))) 0
            obtain ⟨f1, f2⟩ := fin
            have h4 : ∀ (v : Value) (k : Nat), k ≠ gl → ((wr.drewN 0).drew.setCell ⟨gl, q, none⟩ v).heap[k]? = wr.heap[k]? := fun v k hk => heap_setCell_other (wr.drewN 0).drew _ _ _ (fun e => hk e)
            have hu2 : Bts X ((wr.drewN 0).drew.setCell ⟨gl, q, none⟩ (.slice (some ⟨gg, oo, none⟩) l.length 0)) u b := Hub.out.keep (fun _ h => h) (fun k cu' fr hx hk => h4 _ k (fun e => by
              subst e
              rw [hgl] at hk
              simp at hk))
            first | exact ⟨HS.out.trans f1, .inl ⟨q, at', b, l, Hl.out, HF.out, u, rfl, hu2, f2⟩⟩ | exact ⟨HS.out.trans f1, .inl ⟨q, at', b, l, u, Hl.out, HF.out, rfl, hu2, f2⟩⟩
          · have hc1' : ¬ cc - 1 = 0 := by omega
            refine start_ (n := 15) (S := fun W' => W'.heap[pr]? = wr.heap[pr]? ∧ W'.heap[gl]? = wr.heap[gl]?) (ds := [14]) #[false, false, false, false, false, false, false, false, false, false, false, false, false, false, false] (by kernel_rfl) rfl rfl ⟨rfl, rfl⟩ (fun hHeld => ?_)
            refine pure_ (i := 0) (N := some 69) (v := .pointer (some ⟨pr, 0, none⟩)) #[true, false, false, false, false, false, false, false, false, false, false, false, false, false, false] rfl rfl (by kernel_rfl) (fun _ _ _ h => h) (Or.inl ⟨by rfl, fun w' => by go_simp⟩) rfl ?_
            simp only [Act.put, List.setIfInBounds_toArray, List.set_cons_zero, List.set_cons_succ]
            refine pure_ (i := 1) (N := some 70) (v := .pointer (some ⟨pr, 0, none⟩)) #[true, true, false, false, false, false, false, false, false, false, false, false, false, false, false] rfl rfl (by kernel_rfl) (fun _ _ _ h => h) (Or.inl ⟨by rfl, fun w' => by go_simp⟩) rfl ?_
            simp only [Act.put, List.setIfInBounds_toArray, List.set_cons_zero, List.set_cons_succ]
            refine pure_ (i := 2) (N := some 71) (v := .pointer (some ⟨pr, 1, none⟩)) #[true, true, true, false, false, false, false, false, false, false, false, false, false, false, false] rfl rfl (by kernel_rfl) (fun _ _ _ h => h) (Or.inl ⟨by rfl, fun w' => by go_simp⟩) rfl ?_
            simp only [Act.put, List.setIfInBounds_toArray, List.set_cons_zero, List.set_cons_succ]
            refine take_ (i := 3) (N := some 72) (v := .slice (some ⟨gl, 0, none⟩) L.length L.length) #[true, true, true, true, false, false, false, false, false, false, false, false, false, false, false] rfl rfl (by kernel_rfl) (fun _ _ _ h => h) (Or.inl ⟨by rfl, fun w' hw' => by have hc := cell_of_row w' pr 1 _ _ _ (hw'.1.trans HR.out.pb); go_simp⟩) hHeld rfl ?_
            simp only [Act.put, List.setIfInBounds_toArray, List.set_cons_zero, List.set_cons_succ]
            refine pure_ (i := 4) (N := some 73) (v := .int .i64 q) #[true, true, true, true, true, false, false, false, false, false, false, false, false, false, false] rfl rfl (by kernel_rfl) (fun _ _ _ h => h) (Or.inl ⟨by rfl, fun w' => by go_simp⟩) rfl ?_
            simp only [Act.put, List.setIfInBounds_toArray, List.set_cons_zero, List.set_cons_succ]
            refine pure_ (i := 5) (N := some 74) (v := .pointer (some ⟨pr, 0, none⟩)) #[true, true, true, true, true, true, false, false, false, false, false, false, false, false, false] rfl rfl (by kernel_rfl) (fun _ _ _ h => h) (Or.inl ⟨by rfl, fun w' => by go_simp⟩) rfl ?_
            simp only [Act.put, List.setIfInBounds_toArray, List.set_cons_zero, List.set_cons_succ]
            refine pure_ (i := 6) (N := some 75) (v := .pointer (some ⟨pr, 0, none⟩)) #[true, true, true, true, true, true, true, false, false, false, false, false, false, false, false] rfl rfl (by kernel_rfl) (fun _ _ _ h => h) (Or.inl ⟨by rfl, fun w' => by go_simp⟩) rfl ?_
            simp only [Act.put, List.setIfInBounds_toArray, List.set_cons_zero, List.set_cons_succ]
            refine pure_ (i := 7) (N := some 76) (v := .pointer (some ⟨pr, 1, none⟩)) #[true, true, true, true, true, true, true, true, false, false, false, false, false, false, false] rfl rfl (by kernel_rfl) (fun _ _ _ h => h) (Or.inl ⟨by rfl, fun w' => by go_simp⟩) rfl ?_
            simp only [Act.put, List.setIfInBounds_toArray, List.set_cons_zero, List.set_cons_succ]
            refine take_ (i := 8) (N := some 77) (v := .slice (some ⟨gl, 0, none⟩) L.length L.length) #[true, true, true, true, true, true, true, true, true, false, false, false, false, false, false] rfl rfl (by kernel_rfl) (fun _ _ _ h => h) (Or.inl ⟨by rfl, fun w' hw' => by have hc := cell_of_row w' pr 1 _ _ _ (hw'.1.trans HR.out.pb); go_simp⟩) hHeld rfl ?_
            simp only [Act.put, List.setIfInBounds_toArray, List.set_cons_zero, List.set_cons_succ]
            refine pure_ (i := 9) (N := some 78) (v := .int .i64 q) #[true, true, true, true, true, true, true, true, true, true, false, false, false, false, false] rfl rfl (by kernel_rfl) (fun _ _ _ h => h) (Or.inl ⟨by rfl, fun w' => by go_simp⟩) rfl ?_
            simp only [Act.put, List.setIfInBounds_toArray, List.set_cons_zero, List.set_cons_succ]
            refine pure_ (i := 10) (N := some 79) (v := .pointer (some ⟨gl, q, none⟩)) #[true, true, true, true, true, true, true, true, true, true, true, false, false, false, false] rfl rfl (by kernel_rfl) (fun _ _ _ h => h) (Or.inl ⟨by rfl, fun w' => by go_simp⟩) rfl ?_
            simp only [Act.put, List.setIfInBounds_toArray, List.set_cons_zero, List.set_cons_succ]
            refine take_ (i := 11) (N := some 80) (v := .slice (some ⟨gg, oo, none⟩) (l.length + 1) cc) #[true, true, true, true, true, true, true, true, true, true, true, true, false, false, false] rfl rfl (by kernel_rfl) (fun _ _ _ h => h) (Or.inl ⟨by rfl, fun w' hw' => by have hc := (World.cell?_of_block (a := ⟨gl, q, none⟩) hw'.2).trans cg; go_simp⟩) hHeld rfl ?_
            simp only [Act.put, List.setIfInBounds_toArray, List.set_cons_zero, List.set_cons_succ]
            refine pure_ (i := 12) (N := some 81) (v := .slice (some ⟨gg, oo + 1, none⟩) l.length (cc - 1)) #[true, true, true, true, true, true, true, true, true, true, true, true, true, false, false] rfl rfl (by kernel_rfl) (fun _ _ _ h => h) (Or.inl ⟨by rfl, fun w' => by go_simp⟩) rfl ?_
            simp only [Act.put, List.setIfInBounds_toArray, List.set_cons_zero, List.set_cons_succ]
            refine pure_ (i := 13) (N := some 82) (v := .pointer (some ⟨gl, q, none⟩)) #[true, true, true, true, true, true, true, true, true, true, true, true, true, true, false] rfl rfl (by kernel_rfl) (fun _ _ _ h => h) (Or.inl ⟨by rfl, fun w' => by go_simp⟩) rfl ?_
            simp only [Act.put, List.setIfInBounds_toArray, List.set_cons_zero, List.set_cons_succ]
            have c9 : wr.drew.cell? ⟨gl, q, none⟩ = some (.slice (some ⟨gg, oo, none⟩) (l.length + 1) cc) := cg
            have f9 : wr.drew.frozen? ⟨gl, q, none⟩ = false := frozen_of_row wr.drew gl q _ _ hgl
            refine last_ (i := 14) (N := none) #[true, true, true, true, true, true, true, true, true, true, true, true, true, true, true] rfl rfl (by kernel_rfl) (by simp) (fun K hK => ?_)
            rw [if_pos (show Region.wanted _ _ = true from rfl)]
            unfold Oper.wp execOp
            go_simp
            refine hK.out _ _ ?_
            refine done_ (by kernel_rfl) ?_
            go_wp2_with fail
            go_ret3
            have fin := HR.out.took Hl.out (Hw2.out) 0
            obtain ⟨f1, f2⟩ := fin
            have h4 : ∀ (v : Value) (k : Nat), k ≠ gl → ((wr.drewN 0).drew.setCell ⟨gl, q, none⟩ v).heap[k]? = wr.heap[k]? := fun v k hk => heap_setCell_other (wr.drewN 0).drew _ _ _ (fun e => hk e)
            have hu2 : Bts X ((wr.drewN 0).drew.setCell ⟨gl, q, none⟩ (.slice (some ⟨gg, oo + 1, none⟩) l.length (cc - 1))) u b := Hub.out.keep (fun _ h => h) (fun k cu' fr hx hk => h4 _ k (fun e => by
              subst e
              rw [hgl] at hk
              simp at hk))
            first | exact ⟨HS.out.trans f1, .inl ⟨q, at', b, l, Hl.out, HF.out, u, rfl, hu2, f2⟩⟩ | exact ⟨HS.out.trans f1, .inl ⟨q, at', b, l, u, Hl.out, HF.out, rfl, hu2, f2⟩⟩
        · have dummy := hlt
          obtain ⟨gg, oo, cc, u, cg, hcc, cu, hub, hw1, hw2⟩ := HR.out.head Hl.out
          have cq1 := cell_of_row wr pr 1 _ _ _ HR.out.pb
          obtain ⟨cur, hgl, _⟩ := HR.out.gb
          have hqL : q < L.length := (List.getElem?_eq_some_iff.1 Hl.out).1
          have hqI : (q : Int) < L.length := by omega
          have k3 : (0 : Int) < (l.length : Int) + 1 := by omega
          have k5 : ¬ ((n : Int) + 1 ≤ q) := by omega
          have k6 : (q : Int) < (n : Int) + 1 := by omega
          have k7 : ¬ ((l.length : Int) + 1 < 1) := by omega
          have k8 : (1 : Int) ≤ (l.length : Int) + 1 := by omega
          have dq : decide ((q : Int) < 0) = false := by simp
          have Hub := Lib.hid hub; have Hw1 := Lib.hid hw1; have Hw2 := Lib.hid hw2
          clear hub hw1 hw2
          go_wp2_with fail
          by_cases hc1 : cc = 1
          · subst hc1
            refine start_ (n := 15) (S := fun W' => W'.heap[pr]? = wr.heap[pr]? ∧ W'.heap[gl]? = wr.heap[gl]?) (ds := [14]) #[false, false, false, false, false, false, false, false, false, false, false, false, false, false, false] (by kernel_rfl) rfl rfl ⟨rfl, rfl⟩ (fun hHeld => ?_)
            refine pure_ (i := 0) (N := some 69) (v := .pointer (some ⟨pr, 0, none⟩)) #[true, false, false, false, false, false, false, false, false, false, false, false, false, false, false] rfl rfl (by kernel_rfl) (fun _ _ _ h => h) (Or.inl ⟨by rfl, fun w' => by go_simp⟩) rfl ?_
            simp only [Act.put, List.setIfInBounds_toArray, List.set_cons_zero, List.set_cons_succ]
            refine pure_ (i := 1) (N := some 70) (v := .pointer (some ⟨pr, 0, none⟩)) #[true, true, false, false, false, false, false, false, false, false, false, false, false, false, false] rfl rfl (by kernel_rfl) (fun _ _ _ h => h) (Or.inl ⟨by rfl, fun w' => by go_simp⟩) rfl ?_
            simp only [Act.put, List.setIfInBounds_toArray, List.set_cons_zero, List.set_cons_succ]
            refine pure_ (i := 2) (N := some 71) (v := .pointer (some ⟨pr, 1, none⟩)) #[true, true, true, false, false, false, false, false, false, false, false, false, false, false, false] rfl rfl (by kernel_rfl) (fun _ _ _ h => h) (Or.inl ⟨by rfl, fun w' => by go_simp⟩) rfl ?_
            simp only [Act.put, List.setIfInBounds_toArray, List.set_cons_zero, List.set_cons_succ]
            refine take_ (i := 3) (N := some 72) (v := .slice (some ⟨gl, 0, none⟩) L.length L.length) #[true, true, true, true, false, false, false, false, false, false, false, false, false, false, false] rfl rfl (by kernel_rfl) (fun _ _ _ h => h) (Or.inl ⟨by rfl, fun w' hw' => by have hc := cell_of_row w' pr 1 _ _ _ (hw'.1.trans HR.out.pb); go_simp⟩) hHeld rfl ?_
            simp only [Act.put, List.setIfInBounds_toArray, List.set_cons_zero, List.set_cons_succ]
            refine pure_ (i := 4) (N := some 73) (v := .int .i64 q) #[true, true, true, true, true, false, false, false, false, false, false, false, false, false, false] rfl rfl (by kernel_rfl) (fun _ _ _ h => h) (Or.inl ⟨by rfl, fun w' => by go_simp⟩) rfl ?_
            simp only [Act.put, List.setIfInBounds_toArray, List.set_cons_zero, List.set_cons_succ]
            refine pure_ (i := 5) (N := some 74) (v := .pointer (some ⟨pr, 0, none⟩)) #[true, true, true, true, true, true, false, false, false, false, false, false, false, false, false] rfl rfl (by kernel_rfl) (fun _ _ _ h => h) (Or.inl ⟨by rfl, fun w' => by go_simp⟩) rfl ?_
            simp only [Act.put, List.setIfInBounds_toArray, List.set_cons_zero, List.set_cons_succ]
            refine pure_ (i := 6) (N := some 75) (v := .pointer (some ⟨pr, 0, none⟩)) #[true, true, true, true, true, true, true, false, false, false, false, false, false, false, false] rfl rfl (by kernel_rfl) (fun _ _ _ h => h) (Or.inl ⟨by rfl, fun w' => by go_simp⟩) rfl ?_
            simp only [Act.put, List.setIfInBounds_toArray, List.set_cons_zero, List.set_cons_succ]
            refine pure_ (i := 7) (N := some 76) (v := .pointer (some ⟨pr, 1, none⟩)) #[true, true, true, true, true, true, true, true, false, false, false, false, false, false, false] rfl rfl (by kernel_rfl) (fun _ _ _ h => h) (Or.inl ⟨by rfl, fun w' => by go_simp⟩) rfl ?_
            simp only [Act.put, List.setIfInBounds_toArray, List.set_cons_zero, List.set_cons_succ]
            refine take_ (i := 8) (N := some 77) (v := .slice (some ⟨gl, 0, none⟩) L.length L.length) #[true, true, true, true, true, true, true, true, true, false, false, false, false, false, false] rfl rfl (by kernel_rfl) (fun _ _ _ h => h) (Or.inl ⟨by rfl, fun w' hw' => by have hc := cell_of_row w' pr 1 _ _ _ (hw'.1.trans HR.out.pb); go_simp⟩) hHeld rfl ?_
            simp only [Act.put, List.setIfInBounds_toArray, List.set_cons_zero, List.set_cons_succ]
            refine pure_ (i := 9) (N := some 78) (v := .int .i64 q) #[true, true, true, true, true, true, true, true, true, true, false, false, false, false, false] rfl rfl (by kernel_rfl) (fun _ _ _ h => h) (Or.inl ⟨by rfl, fun w' => by go_simp⟩) rfl ?_
            simp only [Act.put, List.setIfInBounds_toArray, List.set_cons_zero, List.set_cons_succ]
            refine pure_ (i := 10) (N := some 79) (v := .pointer (some ⟨gl, q, none⟩)) #[true, true, true, true, true, true, true, true, true, true, true, false, false, false, false] rfl rfl (by kernel_rfl) (fun _ _ _ h => h) (Or.inl ⟨by rfl, fun w' => by go_simp⟩) rfl ?_
            simp only [Act.put, List.setIfInBounds_toArray, List.set_cons_zero, List.set_cons_succ]
            refine take_ (i := 11) (N := some 80) (v := .slice (some ⟨gg, oo, none⟩) (l.length + 1) 1) #[true, true, true, true, true, true, true, true, true, true, true, true, false, false, false] rfl rfl (by kernel_rfl) (fun _ _ _ h => h) (Or.inl ⟨by rfl, fun w' hw' => by have hc := (World.cell?_of_block (a := ⟨gl, q, none⟩) hw'.2).trans cg; go_simp⟩) hHeld rfl ?_
            simp only [Act.put, List.setIfInBounds_toArray, List.set_cons_zero, List.set_cons_succ]
            refine pure_ (i := 12) (N := some 81) (v := .slice (some ⟨gg, oo, none⟩) l.length 0) #[true, true, true, true, true, true, true, true, true, true, true, true, true, false, false] rfl rfl (by kernel_rfl) (fun _ _ _ h => h) (Or.inl ⟨by rfl, fun w' => by go_simp; omega⟩) rfl ?_
            simp only [Act.put, List.setIfInBounds_toArray, List.set_cons_zero, List.set_cons_succ]
            refine pure_ (i := 13) (N := some 82) (v := .pointer (some ⟨gl, q, none⟩)) #[true, true, true, true, true, true, true, true, true, true, true, true, true, true, false] rfl rfl (by kernel_rfl) (fun _ _ _ h => h) (Or.inl ⟨by rfl, fun w' => by go_simp⟩) rfl ?_
            simp only [Act.put, List.setIfInBounds_toArray, List.set_cons_zero, List.set_cons_succ]
            have c9 : wr.drew.cell? ⟨gl, q, none⟩ = some (.slice (some ⟨gg, oo, none⟩) (l.length + 1) 1) := cg
            have f9 : wr.drew.frozen? ⟨gl, q, none⟩ = false := frozen_of_row wr.drew gl q _ _ hgl
            refine last_ (i := 14) (N := none) #[true, true, true, true, true, true, true, true, true, true, true, true, true, true, true] rfl rfl (by kernel_rfl) (by simp) (fun K hK => ?_)
            rw [if_pos (show Region.wanted _ _ = true from rfl)]
            unfold Oper.wp execOp
            go_simp
            refine hK.out _ _ ?_
            refine done_ (by kernel_rfl) ?_
            go_wp2_with fail
            go_ret3
            have fin := HR.out.took Hl.out ((Hw1.out (by first | rfl | trivial))) 0
            obtain ⟨f1, f2⟩ := fin
            have h4 : ∀ (v : Value) (k : Nat), k ≠ gl → ((wr.drewN 0).drew.setCell ⟨gl, q, none⟩ v).heap[k]? = wr.heap[k]? := fun v k hk => heap_setCell_other (wr.drewN 0).drew _ _ _ (fun e => hk e)
            have hu2 : Bts X ((wr.drewN 0).drew.setCell ⟨gl, q, none⟩ (.slice (some ⟨gg, oo, none⟩) l.length 0)) u b := Hub.out.keep (fun _ h => h) (fun k cu' fr hx hk => h4 _ k (fun e => by
              subst e
              rw [hgl] at hk
              simp at hk))
            first | exact ⟨HS.out.trans f1, .inl ⟨q, at', b, l, Hl.out, HF.out, u, rfl, hu2, f2⟩⟩ | exact ⟨HS.out.trans f1, .inl ⟨q, at', b, l, u, Hl.out, HF.out, rfl, hu2, f2⟩⟩
          · have hc1' : ¬ cc - 1 = 0 := by omega
            refine start_ (n := 15) (S := fun W' => W'.heap[pr]? = wr.heap[pr]? ∧ W'.heap[gl]? = wr.heap[gl]?) (ds := [14]) #[false, false, false, false, false, false, false, false, false, false, false, false, false, false, false] (by kernel_rfl) rfl rfl ⟨rfl, rfl⟩ (fun hHeld => ?_)
            refine pure_ (i := 0) (N := some 69) (v := .pointer (some ⟨pr, 0, none⟩)) #[true, false, false, false, false, false, false, false, false, false, false, false, false, false, false] rfl rfl (by kernel_rfl) (fun _ _ _ h => h) (Or.inl ⟨by rfl, fun w' => by go_simp⟩) rfl ?_
            simp only [Act.put, List.setIfInBounds_toArray, List.set_cons_zero, List.set_cons_succ]
            refine pure_ (i := 1) (N := some 70) (v := .pointer (some ⟨pr, 0, none⟩)) #[true, true, false, false, false, false, false, false, false, false, false, false, false, false, false] rfl rfl (by kernel_rfl) (fun _ _ _ h => h) (Or.inl ⟨by rfl, fun w' => by go_simp⟩) rfl ?_
            simp only [Act.put, List.setIfInBounds_toArray, List.set_cons_zero, List.set_cons_succ]
            refine pure_ (i := 2) (N := some 71) (v := .pointer (some ⟨pr, 1, none⟩)) #[true, true, true, false, false, false, false, false, false, false, false, false, false, false, false] rfl rfl (by kernel_rfl) (fun _ _ _ h => h) (Or.inl ⟨by rfl, fun w' => by go_simp⟩) rfl ?_
            simp only [Act.put, List.setIfInBounds_toArray, List.set_cons_zero, List.set_cons_succ]
            refine take_ (i := 3) (N := some 72) (v := .slice (some ⟨gl, 0, none⟩) L.length L.length) #[true, true, true, true, false, false, false, false, false, false, false, false, false, false, false] rfl rfl (by kernel_rfl) (fun _ _ _ h => h) (Or.inl ⟨by rfl, fun w' hw' => by have hc := cell_of_row w' pr 1 _ _ _ (hw'.1.trans HR.out.pb); go_simp⟩) hHeld rfl ?_
            simp only [Act.put, List.setIfInBounds_toArray, List.set_cons_zero, List.set_cons_succ]
            refine pure_ (i := 4) (N := some 73) (v := .int .i64 q) #[true, true, true, true, true, false, false, false, false, false, false, false, false, false, false] rfl rfl (by kernel_rfl) (fun _ _ _ h => h) (Or.inl ⟨by rfl, fun w' => by go_simp⟩) rfl ?_
            simp only [Act.put, List.setIfInBounds_toArray, List.set_cons_zero, List.set_cons_succ]
            refine pure_ (i := 5) (N := some 74) (v := .pointer (some ⟨pr, 0, none⟩)) #[true, true, true, true, true, true, false, false, false, false, false, false, false, false, false] rfl rfl (by kernel_rfl) (fun _ _ _ h => h) (Or.inl ⟨by rfl, fun w' => by go_simp⟩) rfl ?_
            simp only [Act.put, List.setIfInBounds_toArray, List.set_cons_zero, List.set_cons_succ]
            refine pure_ (i := 6) (N := some 75) (v := .pointer (some ⟨pr, 0, none⟩)) #[true, true, true, true, true, true, true, false, false, false, false, false, false, false, false] rfl rfl (by kernel_rfl) (fun _ _ _ h => h) (Or.inl ⟨by rfl, fun w' => by go_simp⟩) rfl ?_
            simp only [Act.put, List.setIfInBounds_toArray, List.set_cons_zero, List.set_cons_succ]
            refine pure_ (i := 7) (N := some 76) (v := .pointer (some ⟨pr, 1, none⟩)) #[true, true, true, true, true, true, true, true, false, false, false, false, false, false, false] rfl rfl (by kernel_rfl) (fun _ _ _ h => h) (Or.inl ⟨by rfl, fun w' => by go_simp⟩) rfl ?_
            simp only [Act.put, List.setIfInBounds_toArray, List.set_cons_zero, List.set_cons_succ]
            refine take_ (i := 8) (N := some 77) (v := .slice (some ⟨gl, 0, none⟩) L.length L.length) #[true, true, true, true, true, true, true, true, true, false, false, false, false, false, false] rfl rfl (by kernel_rfl) (fun _ _ _ h => h) (Or.inl ⟨by rfl, fun w' hw' => by have hc := cell_of_row w' pr 1 _ _ _ (hw'.1.trans HR.out.pb); go_simp⟩) hHeld rfl ?_
            simp only [Act.put, List.setIfInBounds_toArray, List.set_cons_zero, List.set_cons_succ]
            refine pure_ (i := 9) (N := some 78) (v := .int .i64 q) #[true, true, true, true, true, true, true, true, true, true, false, false, false, false, false] rfl rfl (by kernel_rfl) (fun _ _ _ h => h) (Or.inl ⟨by rfl, fun w' => by go_simp⟩) rfl ?_
            simp only [Act.put, List.setIfInBounds_toArray, List.set_cons_zero, List.set_cons_succ]
            refine pure_ (i := 10) (N := some 79) (v := .pointer (some ⟨gl, q, none⟩)) #[true, true, true, true, true, true, true, true, true, true, true, false, false, false, false] rfl rfl (by kernel_rfl) (fun _ _ _ h => h) (Or.inl ⟨by rfl, fun w' => by go_simp⟩) rfl ?_
            simp only [Act.put, List.setIfInBounds_toArray, List.set_cons_zero, List.set_cons_succ]
            refine take_ (i := 11) (N := some 80) (v := .slice (some ⟨gg, oo, none⟩) (l.length + 1) cc) #[true, true, true, true, true, true, true, true, true, true, true, true, false, false, false] rfl rfl (by kernel_rfl) (fun _ _ _ h => h) (Or.inl ⟨by rfl, fun w' hw' => by have hc := (World.cell?_of_block (a := ⟨gl, q, none⟩) hw'.2).trans cg; go_simp⟩) hHeld rfl ?_
            simp only [Act.put, List.setIfInBounds_toArray, List.set_cons_zero, List.set_cons_succ]
            refine pure_ (i := 12) (N := some 81) (v := .slice (some ⟨gg, oo + 1, none⟩) l.length (cc - 1)) #[true, true, true, true, true, true, true, true, true, true, true, true, true, false, false] rfl rfl (by kernel_rfl) (fun _ _ _ h => h) (Or.inl ⟨by rfl, fun w' => by go_simp⟩) rfl ?_
            simp only [Act.put, List.setIfInBounds_toArray, List.set_cons_zero, List.set_cons_succ]
            refine pure_ (i := 13) (N := some 82) (v := .pointer (some ⟨gl, q, none⟩)) #[true, true, true, true, true, true, true, true, true, true, true, true, true, true, false] rfl rfl (by kernel_rfl) (fun _ _ _ h => h) (Or.inl ⟨by rfl, fun w' => by go_simp⟩) rfl ?_
            simp only [Act.put, List.setIfInBounds_toArray, List.set_cons_zero, List.set_cons_succ]
            have c9 : wr.drew.cell? ⟨gl, q, none⟩ = some (.slice (some ⟨gg, oo, none⟩) (l.length + 1) cc) := cg
            have f9 : wr.drew.frozen? ⟨gl, q, none⟩ = false := frozen_of_row wr.drew gl q _ _ hgl
            refine last_ (i := 14) (N := none) #[true, true, true, true, true, true, true, true, true, true, true, true, true, true, true] rfl rfl (by kernel_rfl) (by simp) (fun K hK => ?_)
            rw [if_pos (show Region.wanted _ _ = true from rfl)]
            unfold Oper.wp execOp
            go_simp
            refine hK.out _ _ ?_
            refine done_ (by kernel_rfl) ?_
            go_wp2_with fail
            go_ret3
            have fin := HR.out.took Hl.out (Hw2.out) 0
            obtain ⟨f1, f2⟩ := fin
            have h4 : ∀ (v : Value) (k : Nat), k ≠ gl → ((wr.drewN 0).drew.setCell ⟨gl, q, none⟩ v).heap[k]? = wr.heap[k]? := fun v k hk => heap_setCell_other (wr.drewN 0).drew _ _ _ (fun e => hk e)
            have hu2 : Bts X ((wr.drewN 0).drew.setCell ⟨gl, q, none⟩ (.slice (some ⟨gg, oo + 1, none⟩) l.length (cc - 1))) u b := Hub.out.keep (fun _ h => h) (fun k cu' fr hx hk => h4 _ k (fun e => by
              subst e
              rw [hgl] at hk
              simp at hk))
            first | exact ⟨HS.out.trans f1, .inl ⟨q, at', b, l, Hl.out, HF.out, u, rfl, hu2, f2⟩⟩ | exact ⟨HS.out.trans f1, .inl ⟨q, at', b, l, u, Hl.out, HF.out, rfl, hu2, f2⟩⟩
end
end Dk
end Go.Proofs.Ytlhllbnoifppeaa
