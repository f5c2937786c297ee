/- The contract of the reference's Put. -/
import Derived.Test.YtlhllbnoifppeaaRnew
import Derived.Test.YtlhllbnoifppeaaWLast
namespace Go.Proofs.Ytlhllbnoifppeaa
namespace Dk
open Go.RowKit Go.Proofs.YtlhllbnoifppeaaW.PrintLast
set_option maxHeartbeats 4000000
set_option maxRecDepth 100000
/-- All that was there stays, but for the reference's own two blocks. -/
structure RSame (pr gl : Nat) (w w' : World) : Prop where
  os : w'.os = w.os
  tape : w'.tape = w.tape
  output : w'.output = w.output
  size : w.heap.size ≤ w'.heap.size
  block : ∀ k, k < w.heap.size → k ≠ pr → k ≠ gl → w'.heap[k]? = w.heap[k]?
section
variable {X : Nat → Prop} {w : World} {pr gl room : Nat} {L : List (List (List Int))} {at_ lost : Int}
/-- The count of the lost ones, the place: stored. -/
theorem RRep.cell (h : RRep X w pr gl room L at_ lost) (at' lost' : Int) {w' : World}
    (hp : w'.heap[pr]? = some (.cells #[.int .i64 room, .slice (some ⟨gl, 0, none⟩) L.length L.length, .int .i64 at', .int .i64 lost'] 38 (0, 0))) (ho : ∀ k, k ≠ pr → w'.heap[k]? = w.heap[k]?) : RRep X w' pr gl room L at' lost' := by
  obtain ⟨cur, hg, hc⟩ := h.gb
  have hne : gl ≠ pr := by
    rintro rfl
    have := h.pb
    rw [hg] at this
    simp at this
  refine ⟨hp, h.px, h.gx, cur, (ho gl hne).trans hg, fun i l hl => ?_⟩
  obtain ⟨v, hv, hr⟩ := hc i l hl
  refine ⟨v, hv, hr.keep (fun _ h => h) (fun k cu t fr hx ht hk => ho k ?_)⟩
  rintro rfl
  have := h.pb
  rw [hk] at this
  simp at this
  rcases ht with rfl | rfl
  · exact absurd this.2.1 (by decide)
  · exact absurd this.2.1 (by decide)
theorem RRep.more_lost (h : RRep X w pr gl room L at_ lost) (N : Nat) (v : Int) : RSame pr gl w ((w.drewN N).setCell ⟨pr, 3, none⟩ (.int .i64 v)) ∧ RRep X ((w.drewN N).setCell ⟨pr, 3, none⟩ (.int .i64 v)) pr gl room L at_ v := by
  have ho : ∀ k, k ≠ pr → ((w.drewN N).setCell ⟨pr, 3, none⟩ (.int .i64 v)).heap[k]? = w.heap[k]? := fun k hk => heap_setCell_other (w.drewN N) _ _ _ (fun e => hk e)
  refine ⟨⟨rfl, rfl, rfl, by simp [World.drewN], fun k _ h1 _ => ho k h1⟩, h.cell at_ v ?_ ho⟩
  rw [heap_setCell_same (w.drewN N) _ _ _ _ _ h.pb]; rfl
theorem RRep.more_at (h : RRep X w pr gl room L at_ lost) (v : Int) : RSame pr gl w (w.setCell ⟨pr, 2, none⟩ (.int .i64 v)) ∧ RRep X (w.setCell ⟨pr, 2, none⟩ (.int .i64 v)) pr gl room L v lost := by
  have ho : ∀ k, k ≠ pr → (w.setCell ⟨pr, 2, none⟩ (.int .i64 v)).heap[k]? = w.heap[k]? := fun k hk => heap_setCell_other w _ _ _ (fun e => hk e)
  refine ⟨⟨rfl, rfl, rfl, by simp, fun k _ h1 _ => ho k h1⟩, h.cell v lost ?_ ho⟩
  rw [heap_setCell_same w _ _ _ _ _ h.pb]; rfl
theorem rput_out (h : RRep X w pr gl room L at_ lost) (i : Int) (A : Option Addr) (bs : List Int) (c : Nat) (hi : ¬ (0 ≤ i ∧ i < L.length)) (hlo : -1 ≤ lost) (hlo2 : lost < 1000000) :
    Calls Try.prog 15 #[.pointer (some ⟨pr, 0, none⟩), .int .i64 i, .slice A bs.length c] w fun e w' => e = .returned (.bool false) ∧ RSame pr gl w w' ∧ RRep X w' pr gl room L at_ (lost + 1) := by
  have H := Lib.hid h
  have hp := h.pb
  have c0 := cell_of_row w pr 0 _ _ _ hp
  have c1 := cell_of_row w pr 1 _ _ _ hp
  have c3 := cell_of_row w pr 3 _ _ _ hp
  have f3 := frozen_of_row w pr 3 _ _ hp
  have Hp := Lib.hid hp
  clear h hp
  by_cases h0 : i < 0
  · have d0 : decide (i < 0) = true := by simp; omega
    go_enter Try.func15, Try.ntmps15
    go_wp2_with fail
    go_quiet (fail)
    go_wp2_with fail
    go_ret
    exact ⟨rfl, H.out.more_lost _ _⟩
  · have d0 : decide (i < 0) = false := by simp; omega
    have d1 : decide ((L.length : Int) ≤ i) = true := by simp; omega
    go_enter Try.func15, Try.ntmps15
    go_wp2_with fail
    go_quiet (fail)
    go_wp2_with fail
    go_ret
    exact ⟨rfl, H.out.more_lost _ _⟩
theorem rput_full (h : RRep X w pr gl room L at_ lost) (i : Nat) (A : Option Addr) (bs : List Int) (c : Nat) {l : List (List Int)} (hl : L[i]? = some l) (hf : room ≤ l.length) (hlo : -1 ≤ lost) (hlo2 : lost < 1000000) :
    Calls Try.prog 15 #[.pointer (some ⟨pr, 0, none⟩), .int .i64 i, .slice A bs.length c] w fun e w' => e = .returned (.bool false) ∧ RSame pr gl w w' ∧ RRep X w' pr gl room L at_ (lost + 1) := by
  have H := Lib.hid h
  have hp := h.pb
  have c0 := cell_of_row w pr 0 _ _ _ hp
  have c1 := cell_of_row w pr 1 _ _ _ hp
  have c3 := cell_of_row w pr 3 _ _ _ hp
  have f3 := frozen_of_row w pr 3 _ _ hp
  have Hp := Lib.hid hp
  have hiL : i < L.length := (List.getElem?_eq_some_iff.1 hl).1
  obtain ⟨v, A1, c1', vs, cg, hv, _⟩ := h.at_ hl
  rw [hv] at cg
  clear h hp hl
  have d0 : decide ((i : Int) < 0) = false := by simp
  have d1 : decide ((L.length : Int) ≤ i) = false := by simp; omega
  have d1' : decide (L.length ≤ i) = false := by simp; omega
  have d2 : decide ((room : Int) ≤ l.length) = true := by simp; omega
  have d2' : decide (room ≤ l.length) = true := by simp; omega
  have hii : (i : Int) < L.length := by omega
  go_enter Try.func15, Try.ntmps15
  go_wp2_with fail
  go_quiet (fail)
  go_wp2_with fail
  go_ret
  exact ⟨rfl, H.out.more_lost _ _⟩
theorem RRep.put (h : RRep X w pr gl room L at_ lost) {i : Nat} {l : List (List Int)} (hl : L[i]? = some l) {vs : List Value} (hlen : vs.length = l.length)
    (hb : ∀ (j : Nat) (u : Value) (b : List Int), vs[j]? = some u → l[j]? = some b → Bts X w u b) {w1 w2 w4 : World} {v1 v2 v3 : Value} {bs : List Int} (hg1 : w.grownBy w1 none) (ho1 : w1.ownsRow w.heap.size 25 1 v1 vs.length vs)
    (hg2 : w1.grownBy w2 none) (ho2 : w2.ownsRow w1.heap.size 5 1 v2 bs.length (mapB bs)) (o : Obj) (hg4 : (w2.alloc o).grownBy w4 v1.ownBlock) (ho4 : w4.ownsRow w.heap.size 25 1 v3 (vs.length + 1) (vs ++ [v2])) :
    RSame pr gl w (w4.setCell ⟨gl, i, none⟩ v3) ∧ RRep (fun k => X k ∨ (w.heap.size ≤ k ∧ k < (w4.setCell ⟨gl, i, none⟩ v3).heap.size)) (w4.setCell ⟨gl, i, none⟩ v3) pr gl room (L.set i (l ++ [bs])) at_ lost := by
  have hsz : (w2.alloc o).heap.size = w2.heap.size + 1 := size_al w2 o
  have s1 := hg1.size
  have s2 := hg2.size
  have s4 := hg4.size
  have s5 : (w4.setCell ⟨gl, i, none⟩ v3).heap.size = w4.heap.size := by simp
  have hiL : i < L.length := (List.getElem?_eq_some_iff.1 hl).1
  have hne : ∀ k, k < w.heap.size → w4.heap[k]? = w.heap[k]? := fun k hk => by
    rw [hg4.block k (by omega) (fun e => by have := (ho1.lt k e.symm).1; omega), Below.heap_alloc w2 o k (by omega), hg2.block k (by omega) (by simp), hg1.block k hk (by simp)]
  have ho : ∀ k, k ≠ gl → (w4.setCell ⟨gl, i, none⟩ v3).heap[k]? = w4.heap[k]? := fun k hk => heap_setCell_other w4 _ _ _ (fun e => hk e)
  obtain ⟨cur, hg, hc⟩ := h.gb
  have hgl := (Array.getElem?_eq_some_iff.1 hg).1
  have hprl := (Array.getElem?_eq_some_iff.1 h.pb).1
  have hpg : pr ≠ gl := by
    rintro rfl
    have := h.pb
    rw [hg] at this
    simp at this
  have kept : Kept X w (w4.setCell ⟨gl, i, none⟩ v3) := fun k cu t fr hx ht hk => by
    have hkl := (Array.getElem?_eq_some_iff.1 hk).1
    rw [ho k (by
      rintro rfl
      rw [hg] at hk
      simp at hk
      rcases ht with rfl | rfl
      · exact absurd hk.2.1 (by decide)
      · exact absurd hk.2.1 (by decide)), hne k hkl]
  refine ⟨⟨(((hg4.os.trans rfl).trans hg2.os).trans hg1.os), (((hg4.tape.trans rfl).trans hg2.tape).trans hg1.tape), (((hg4.output.trans rfl).trans hg2.output).trans hg1.output), by omega, fun k hk _ h2 => (ho k h2).trans (hne k hk)⟩, ?_⟩
  refine ⟨?_, .inl h.px, .inl h.gx, cur.setIfInBounds i v3, ?_, fun j l' hj => ?_⟩
  · rw [ho pr hpg, hne pr hprl, h.pb]
    simp
  · rw [heap_setCell_same _ _ _ _ _ _ ((hne gl hgl).trans hg)]
  · by_cases hij : i = j
    · subst hij
      rw [List.getElem?_set_self hiL] at hj
      obtain rfl := Option.some.inj hj
      obtain ⟨v, hv, _⟩ := hc i l hl
      have hcl := (Array.getElem?_eq_some_iff.1 hv).1
      refine ⟨v3, by simp [hcl], vs ++ [v2], ?_, by simp [hlen], fun j u b hu hb' => ?_⟩
      · rcases ho4.2 with ⟨_, h0⟩ | ⟨g3, cap, cu, rfl, hg3, hcur, hle, _, _, htake⟩
        · omega
        · have h3l := (Array.getElem?_eq_some_iff.1 hcur).1
          refine ⟨some ⟨g3, 0, none⟩, cap, by simp, by simpa using hle, (fun h => by cases h), fun _ => ⟨g3, 0, cu, _, rfl, .inr ⟨hg3, by omega⟩, (ho g3 (by omega)).trans hcur, fun k u hu => ?_⟩⟩
          rw [← htake, List.getElem?_take] at hu
          split at hu
          · simpa using hu
          · cases hu
      · by_cases hjl : j < vs.length
        · rw [List.getElem?_append_left hjl] at hu
          rw [List.getElem?_append_left (by omega)] at hb'
          exact (hb j u b hu hb').keep (fun k hk => .inl hk) (fun k cu fr hx hk => kept k cu 5 fr hx (.inl rfl) hk)
        · have hjl2 : j = vs.length := by
            have := (List.getElem?_eq_some_iff.1 hu).1
            simp at this
            omega
          subst hjl2
          rw [List.getElem?_append_right (Nat.le_refl _)] at hu
          rw [hlen, List.getElem?_append_right (Nat.le_refl _)] at hb'
          simp at hu hb'
          subst hu; subst hb'
          rcases ho2.2 with ⟨rfl, h0⟩ | ⟨g2, cap, cu, rfl, hg2', hcur, hle, _, _, htake⟩
          · exact ⟨none, 0, by rw [h0], fun hp => by omega⟩
          · have h2l := (Array.getElem?_eq_some_iff.1 hcur).1
            refine ⟨_, _, rfl, fun _ => ⟨g2, 0, cu, (0, 0), rfl, .inr ⟨by omega, by omega⟩, ?_, fun k u hu => ?_⟩⟩
            · rw [ho g2 (by omega), hg4.block g2 (by omega) (fun e => by have := (ho1.lt g2 e.symm).2; omega), Below.heap_alloc w2 o g2 h2l]
              exact hcur
            · have hu' : (mapB bs)[k]? = some u := hu
              rw [← htake, List.getElem?_take] at hu'
              split at hu'
              · simpa using hu'
              · cases hu'
    · rw [List.getElem?_set_ne hij] at hj
      obtain ⟨v, hv, hr⟩ := hc j l' hj
      refine ⟨v, ?_, hr.keep (fun k hk => .inl hk) kept⟩
      rw [Array.getElem?_setIfInBounds, if_neg hij]
      exact hv
theorem rput_room (h : RRep X w pr gl room L at_ lost) (i : Nat) (A : Option Addr) (bs : List Int) (c : Nat) (hAc : A = none → c = 0) (hs : Src w A bs) {l : List (List Int)} (hl : L[i]? = some l) (hf : l.length < room) (hr8 : room ≤ 1000) (hbl : bs.length ≤ 1000000) :
    Calls Try.prog 15 #[.pointer (some ⟨pr, 0, none⟩), .int .i64 i, .slice A bs.length c] w fun e w' => e = .returned (.bool true) ∧ RSame pr gl w w' ∧ RRep (fun k => X k ∨ (w.heap.size ≤ k ∧ k < w'.heap.size)) w' pr gl room (L.set i (l ++ [bs])) at_ lost := by
  have H := Lib.hid h
  have hp := h.pb
  have c0 := cell_of_row w pr 0 _ _ _ hp
  have c1 := cell_of_row w pr 1 _ _ _ hp
  have Hp := Lib.hid hp
  have hiL : i < L.length := (List.getElem?_eq_some_iff.1 hl).1
  obtain ⟨v, _, _, vs, cg, _, _, ⟨A1, c1', hv, hvc, hA1', hrow⟩, hvl, hvb⟩ := h.at_ hl
  rw [hv] at cg
  have hA1 : A1 = none → c1' = 0 ∧ vs = [] := fun e => ⟨hA1' e, List.eq_nil_of_length_eq_zero (by have := hA1' e; omega)⟩
  have hone : ∀ u ∈ vs, u.oneCell' = true := fun u hu => by
    obtain ⟨j, hj, rfl⟩ := List.getElem_of_mem hu
    obtain ⟨_, _, e, _⟩ := hvb j vs[j] (l[j]'(by omega)) (List.getElem?_eq_getElem hj) (List.getElem?_eq_getElem (by omega))
    rw [e]; rfl
  have Hl := Lib.hid hl; have Hs := Lib.hid hs
  rw [← hvl] at hf
  clear h hp hl hs
  have d0 : decide ((i : Int) < 0) = false := by simp
  have d1 : decide ((L.length : Int) ≤ i) = false := by simp; omega
  have d1' : decide (L.length ≤ i) = false := by simp; omega
  have d2 : decide ((room : Int) ≤ vs.length) = false := by simp; omega
  have d2' : decide (room ≤ vs.length) = false := by simp; omega
  have hii : (i : Int) < L.length := by omega
  go_enter Try.func15, Try.ntmps15
  go_wp2_with fail
  go_quiet (fail)
  go_wp2_with fail
  have hW : (w.drewN nq).drew.heap = w.heap := rfl
  obtain ⟨v1, w1, hr1, ho1, hg1⟩ := append_fresh (w.drewN nq).drew 39 25 _ 24 Try.underlying39 info25 rfl A1 c1' vs hA1 (fun ad e j u hu => by
    obtain ⟨g, o, cu, fr, e2, _, hg, hc⟩ := hrow (by
      cases vs with
      | nil => simp at hu
      | cons x xs => simp)
    rw [e] at e2
    obtain rfl := Option.some.inj e2
    rw [add_flat, cell_of_row (w.drewN nq).drew g (o + j) cu _ _ hg]
    exact hc j u hu) hone (by omega) (by simp only [maxLen]; omega)
  have hmb : (mapB bs).length = bs.length := by simp [mapB]
  obtain ⟨v2, w2, hr2, ho2, hg2⟩ := append_fresh w1 25 5 _ 1 Try.underlying25 info5 rfl A c (mapB bs) (fun e => ⟨hAc e, by
    cases bs with
    | nil => rfl
    | cons x xs => obtain ⟨_, h, _⟩ := Hs.out (by simp); rw [e] at h; cases h⟩) (fun ad e j u hu => by
    obtain ⟨ad', e2, hbl, hc⟩ := Hs.out (by
      cases bs with
      | nil => simp [mapB] at hu
      | cons x xs => simp)
    rw [e] at e2
    obtain rfl := Option.some.inj e2
    rw [World.cell?_of_block (w := (w.drewN nq).drew) (hg1.block (ad.add j).block (by rw [add_block]; exact hbl) (by simp))]
    exact hc j u hu) (mapB_one bs) (by rw [hmb]; omega) (by rw [hmb]; simp only [maxLen]; omega)
  rw [hmb] at hr2 ho2
  obtain ⟨A2, c2, rfl, _⟩ := (own5_of_row ho2 (fun k => k < w1.heap.size) (fun k h1 h2 => by omega))
  obtain ⟨i0, hi0, hz0, hz1, hz2⟩ := info_parts info25
  have hsz3 : (w2.alloc (.cells #[.slice A2 bs.length c2] 25)).heap.size = w2.heap.size + 1 := size_al _ _
  have hs1 := hg1.size
  have hs2 := hg2.size
  have hsw : (w.drewN nq).drew.heap.size = w.heap.size := rfl
  obtain ⟨v3, w4, hr3, ho3, hg3, _⟩ := run_append_own (P := Try.prog) (w2.alloc (.cells #[.slice A2 bs.length c2] 25)) w.heap.size 39 39 25 i0 _ 1 24 Try.underlying39 hi0 hz0 hz1 hz2 rfl (by omega) v1 vs.length vs ((ho1.kept hg2 (by cases v1.ownBlock <;> simp)).alloc _) ⟨w2.heap.size, 0, none⟩ 1 1 [.slice A2 bs.length c2] rfl (fun j u hu => by
    rw [add_flat, cell_of_row _ w2.heap.size _ _ _ _ (heap_alloc_new w2 _)]
    simpa using hu) (fun u hu => by simp at hu; subst hu; rfl) (by simp only [maxLen]; omega) (by omega) (by omega)
  obtain ⟨g3, cap3, rfl, hg3b⟩ := owns_some ho3 (by omega)
  have fin := H.out.put Hl.out hvl hvb (w1 := w1) (w2 := w2) ⟨hg1.os, hg1.tape, hg1.output, hg1.size, hg1.block⟩ ho1 hg2 ho2 _ hg3 ho3
  have old1 : ∀ k, k < w.heap.size → w1.heap[k]? = w.heap[k]? := fun k hk => hg1.block k hk (by simp)
  have old2 : ∀ k, k < w.heap.size → w2.heap[k]? = w.heap[k]? := fun k hk => (hg2.block k (by omega) (by simp)).trans (old1 k hk)
  have old3 : ∀ k, k < w.heap.size → (w2.alloc (.cells #[.slice A2 bs.length c2] 25)).heap[k]? = w.heap[k]? := fun k hk => (Below.heap_alloc w2 _ k (by omega)).trans (old2 k hk)
  have old4 : ∀ k, k < w.heap.size → w4.heap[k]? = w.heap[k]? := fun k hk => (hg3.block k (by omega) (fun e => by have := (ho1.lt k e.symm).1; omega)).trans (old3 k hk)
  have hprl := (Array.getElem?_eq_some_iff.1 Hp.out).1
  obtain ⟨cur, hgl, hcs⟩ := H.out.gb
  have hgll := (Array.getElem?_eq_some_iff.1 hgl).1
  have hgl4 := (old4 gl hgll).trans hgl
  have hcv : cur[i]? = some (.slice A1 vs.length c1') := by
    have := cell_of_row w gl i _ _ _ hgl
    rw [cg] at this
    exact this.symm
  have hh1 := And.intro (old1 pr hprl) (old1 gl hgll)
  have hh2 := And.intro (old2 pr hprl) (old2 gl hgll)
  have hh3 := And.intro (old3 pr hprl) (old3 gl hgll)
  have hh4 := And.intro (old4 pr hprl) (old4 gl hgll)
  have HF := Lib.hid fin
  clear fin old1 old2 old3 old4 hrow ho1 ho2 ho3 hg1 hg2 hg3 hcs
  refine start_ (n := 19) (S := fun W' => W'.heap[pr]? = w.heap[pr]? ∧ W'.heap[gl]? = w.heap[gl]?) (ds := [18]) #[false, false, false, false, false, false, false, false, false, false, false, false, false, false, false, false, false, false, false] (by kernel_rfl) rfl rfl ⟨rfl, rfl⟩ (fun hHeld => ?_)
  refine pure_ (i := 0) (N := some 40) (v := .pointer (some ⟨pr, 0, none⟩)) #[true, false, false, false, false, false, false, false, false, false, false, false, false, false, false, false, false, false, false] rfl rfl (by kernel_rfl) (fun _ _ _ h => h) (Or.inl ⟨by rfl, fun w' => by go_simp⟩) rfl ?_
  simp only [Act.put, List.setIfInBounds_toArray, List.set_cons_zero, List.set_cons_succ]
  refine pure_ (i := 1) (N := some 41) (v := .pointer (some ⟨pr, 0, none⟩)) #[true, true, false, false, false, false, false, false, false, false, false, false, false, false, false, false, false, false, false] rfl rfl (by kernel_rfl) (fun _ _ _ h => h) (Or.inl ⟨by rfl, fun w' => by go_simp⟩) rfl ?_
  simp only [Act.put, List.setIfInBounds_toArray, List.set_cons_zero, List.set_cons_succ]
  refine pure_ (i := 2) (N := some 42) (v := .pointer (some ⟨pr, 1, none⟩)) #[true, true, true, false, false, false, false, false, false, false, false, false, false, false, false, false, false, false, false] rfl rfl (by kernel_rfl) (fun _ _ _ h => h) (Or.inl ⟨by rfl, fun w' => by go_simp⟩) rfl ?_
  simp only [Act.put, List.setIfInBounds_toArray, List.set_cons_zero, List.set_cons_succ]
  refine take_ (i := 3) (N := some 43) (v := .slice (some ⟨gl, 0, none⟩) L.length L.length) #[true, true, true, true, false, false, false, false, false, false, false, false, false, false, false, false, false, false, false] rfl rfl (by kernel_rfl) (fun _ _ _ h => h) (Or.inl ⟨by rfl, fun w' hw' => by have hc := cell_of_row w' pr 1 _ _ _ (hw'.1.trans Hp.out); go_simp⟩) hHeld rfl ?_
  simp only [Act.put, List.setIfInBounds_toArray, List.set_cons_zero, List.set_cons_succ]
  refine pure_ (i := 4) (N := some 44) (v := .int .i64 i) #[true, true, true, true, true, false, false, false, false, false, false, false, false, false, false, false, false, false, false] rfl rfl (by kernel_rfl) (fun _ _ _ h => h) (Or.inl ⟨by rfl, fun w' => by go_simp⟩) rfl ?_
  simp only [Act.put, List.setIfInBounds_toArray, List.set_cons_zero, List.set_cons_succ]
  refine pure_ (i := 5) (N := some 45) (v := .pointer (some ⟨pr, 0, none⟩)) #[true, true, true, true, true, true, false, false, false, false, false, false, false, false, false, false, false, false, false] rfl rfl (by kernel_rfl) (fun _ _ _ h => h) (Or.inl ⟨by rfl, fun w' => by go_simp⟩) rfl ?_
  simp only [Act.put, List.setIfInBounds_toArray, List.set_cons_zero, List.set_cons_succ]
  refine pure_ (i := 6) (N := some 46) (v := .pointer (some ⟨pr, 0, none⟩)) #[true, true, true, true, true, true, true, false, false, false, false, false, false, false, false, false, false, false, false] rfl rfl (by kernel_rfl) (fun _ _ _ h => h) (Or.inl ⟨by rfl, fun w' => by go_simp⟩) rfl ?_
  simp only [Act.put, List.setIfInBounds_toArray, List.set_cons_zero, List.set_cons_succ]
  refine pure_ (i := 7) (N := some 47) (v := .pointer (some ⟨pr, 1, none⟩)) #[true, true, true, true, true, true, true, true, false, false, false, false, false, false, false, false, false, false, false] rfl rfl (by kernel_rfl) (fun _ _ _ h => h) (Or.inl ⟨by rfl, fun w' => by go_simp⟩) rfl ?_
  simp only [Act.put, List.setIfInBounds_toArray, List.set_cons_zero, List.set_cons_succ]
  refine take_ (i := 8) (N := some 48) (v := .slice (some ⟨gl, 0, none⟩) L.length L.length) #[true, true, true, true, true, true, true, true, true, false, false, false, false, false, false, false, false, false, false] rfl rfl (by kernel_rfl) (fun _ _ _ h => h) (Or.inl ⟨by rfl, fun w' hw' => by have hc := cell_of_row w' pr 1 _ _ _ (hw'.1.trans Hp.out); go_simp⟩) hHeld rfl ?_
  simp only [Act.put, List.setIfInBounds_toArray, List.set_cons_zero, List.set_cons_succ]
  refine pure_ (i := 9) (N := some 49) (v := .int .i64 i) #[true, true, true, true, true, true, true, true, true, true, false, false, false, false, false, false, false, false, false] rfl rfl (by kernel_rfl) (fun _ _ _ h => h) (Or.inl ⟨by rfl, fun w' => by go_simp⟩) rfl ?_
  simp only [Act.put, List.setIfInBounds_toArray, List.set_cons_zero, List.set_cons_succ]
  refine pure_ (i := 10) (N := some 50) (v := .pointer (some ⟨gl, i, none⟩)) #[true, true, true, true, true, true, true, true, true, true, true, false, false, false, false, false, false, false, false] rfl rfl (by kernel_rfl) (fun _ _ _ h => h) (Or.inl ⟨by rfl, fun w' => by go_simp⟩) rfl ?_
  simp only [Act.put, List.setIfInBounds_toArray, List.set_cons_zero, List.set_cons_succ]
  refine take_ (i := 11) (N := some 51) (v := .slice A1 vs.length c1') #[true, true, true, true, true, true, true, true, true, true, true, true, false, false, false, false, false, false, false] rfl rfl (by kernel_rfl) (fun _ _ _ h => h) (Or.inl ⟨by rfl, fun w' hw' => by have hc := (World.cell?_of_block (a := ⟨gl, i, none⟩) hw'.2).trans cg; go_simp⟩) hHeld rfl ?_
  simp only [Act.put, List.setIfInBounds_toArray, List.set_cons_zero, List.set_cons_succ]
  refine pure_ (i := 13) (N := some 53) (v := .slice A bs.length c) #[true, true, true, true, true, true, true, true, true, true, true, true, false, true, false, false, false, false, false] rfl rfl (by kernel_rfl) (fun _ _ _ h => h) (Or.inl ⟨by rfl, fun w' => by go_simp⟩) rfl ?_
  simp only [Act.put, List.setIfInBounds_toArray, List.set_cons_zero, List.set_cons_succ]
  refine one_ (i := 12) (N := some 52) #[true, true, true, true, true, true, true, true, true, true, true, true, true, true, false, false, false, false, false] rfl rfl (by kernel_rfl) (by simp) (fun K hK => ?_)
  refine value_ (v := v1) (w' := w1) rfl rfl (exec_append _ _ _ rfl hr1) ?_
  refine hK.out _ _ hh1 (fun hHeld1 => ?_)
  clear hK K
  simp only [Act.put, List.setIfInBounds_toArray, List.set_cons_zero, List.set_cons_succ]
  refine one_ (i := 14) (N := some 54) #[true, true, true, true, true, true, true, true, true, true, true, true, true, true, true, false, false, false, false] rfl rfl (by kernel_rfl) (by simp) (fun K hK => ?_)
  refine value_ (v := .slice A2 bs.length c2) (w' := w2) rfl rfl (exec_append _ _ _ rfl hr2) ?_
  refine hK.out _ _ hh2 (fun hHeld2 => ?_)
  clear hK K
  simp only [Act.put, List.setIfInBounds_toArray, List.set_cons_zero, List.set_cons_succ]
  refine one_ (i := 15) (N := some 55) #[true, true, true, true, true, true, true, true, true, true, true, true, true, true, true, true, false, false, false] rfl rfl (by kernel_rfl) (by simp) (fun K hK => ?_)
  refine value_ (v := .slice (some ⟨w2.heap.size, 0, none⟩) 1 1) (w' := w2.alloc (.cells #[.slice A2 bs.length c2] 25)) rfl rfl ?bs1 ?_
  case bs1 => unfold execOp; go_simp
  refine hK.out _ _ hh3 (fun hHeld3 => ?_)
  clear hK K
  simp only [Act.put, List.setIfInBounds_toArray, List.set_cons_zero, List.set_cons_succ]
  refine one_ (i := 16) (N := some 56) #[true, true, true, true, true, true, true, true, true, true, true, true, true, true, true, true, true, false, false] rfl rfl (by kernel_rfl) (by simp) (fun K hK => ?_)
  refine value_ (v := .slice (some ⟨g3, 0, none⟩) (vs.length + 1) cap3) (w' := w4) rfl rfl (exec_append _ _ _ rfl hr3) ?_
  refine hK.out _ _ hh4 (fun hHeld4 => ?_)
  clear hK K
  simp only [Act.put, List.setIfInBounds_toArray, List.set_cons_zero, List.set_cons_succ]
  refine pure_ (i := 17) (N := some 57) (v := .pointer (some ⟨gl, i, none⟩)) #[true, true, true, true, true, true, true, true, true, true, true, true, true, true, true, true, true, true, false] rfl rfl (by kernel_rfl) (fun _ _ _ h => h) (Or.inl ⟨by rfl, fun w' => by go_simp⟩) rfl ?_
  simp only [Act.put, List.setIfInBounds_toArray, List.set_cons_zero, List.set_cons_succ]
  have cc := cell_of_row w4 gl i _ _ _ hgl4
  have ff := frozen_of_row w4 gl i _ _ hgl4
  rw [hcv] at cc
  refine last_ (i := 18) (N := none) #[true, true, true, true, true, true, true, true, true, true, true, true, true, true, true, true, true, true, true] rfl rfl (by kernel_rfl) (by simp) (fun K hK => ?_)
  rw [if_pos (show Region.wanted _ _ = true from rfl)]
  unfold Oper.wp execOp
  go_simp
  refine hK.out _ _ ?_
  refine done_ (by kernel_rfl) ?_
  go_wp2_with fail
  go_ret
  have fin := HF.out
  rw [hvl] at fin
  exact ⟨rfl, fin⟩
end
end Dk
end Go.Proofs.Ytlhllbnoifppeaa
