/- The walk of ShaRounds: where both tables hold what their initialisers lay, the program's round and the reference's give the same state, and the law returns true; what was there before the call is as it was. Conditions: the state has eight words, the block 64 bytes (their types say so). -/
import Derived.Test.YteldcnllpokfdaaDoorRfr
import Derived.Test.YteldcnllpokfdaaDoorRuns
import Derived.Test.YteldcnllpokfdaaDoorWLast
namespace Go.Proofs.YteldcnllpokfdaaDoor
namespace Sha
open Go.RowKit Go.Proofs.YteldcnllpokfdaaDoorW.PrintLast
set_option maxHeartbeats 4000000
set_option maxRecDepth 1000000

def RoS (w : World) (st b : List Int) (w' : World) : Prop :=
  w'.heap[w.heap.size]? = some (.cells (row st) 29 (0, 0)) ∧ w'.heap[w.heap.size + 1]? = some (.cells (bytes b) 30 (0, 0)) ∧ Keys 0 w' ∧ Keys 1 w' ∧ Below w.heap.size w w'
theorem RoS.load29 {w w' : World} {st b : List Int} (h : RoS w st b w') (hl : st.length = 8) : (loadVar 29 ⟨w.heap.size, 0, none⟩).run Tryd.prog w' = .ok (.agg (row st)) w' :=
  run_loadVar_row w' _ 29 29 _ _ _ h.1 Tryd.underlying29 rfl (by rw [row_size, hl]; kernel_rfl)
theorem RoS.load30 {w w' : World} {st b : List Int} (h : RoS w st b w') (hl : b.length = 64) : (loadVar 30 ⟨w.heap.size + 1, 0, none⟩).run Tryd.prog w' = .ok (.agg (bytes b)) w' :=
  run_loadVar_row w' _ 30 30 _ _ _ h.2.1 Tryd.underlying30 rfl (by rw [bytes_size, hl]; exact I30)
theorem RoS.step {w w1 w2 : World} {st b : List Int} (h : RoS w st b w1) (hb : Below w1.heap.size w1 w2) : RoS w st b w2 := by
  obtain ⟨h1, h2, h3, h4, h5⟩ := h
  have z1 := (Array.getElem?_eq_some_iff.1 h1).1
  have z2 := (Array.getElem?_eq_some_iff.1 h2).1
  exact ⟨(hb.block _ z1).trans h1, (hb.block _ z2).trans h2, h3.below hb h3.1, h4.below hb h4.1, h5.trans (hb.mono h5.size)⟩

theorem exec_load {P : Program} {w : World} {o : Oper} {a : Act} (ty : TypeId) (x : Operand) (ho : o.op = .load ty x) (p : Addr) (hx : a.eval x = .pointer (some p)) (v : Value) (hrun : (loadVar ty p).run P w = .ok v w) :
    (execOp a.eval o).run P w = .ok (.value v) w := by
  unfold execOp
  simp only [ho, hx, Instr.loadAt, Instr.sureAddr, Sem.run_bind, Sem.run_pure, Result.andThen_ok, hrun]

theorem rounds_any (st b : List Int) (w : World) (hh : st.length = 8) (hb : b.length = 64) (hk0 : Keys 0 w) (hk1 : Keys 1 w) :
    Calls Tryd.prog 6 #[.agg (row st), .agg (bytes b)] w fun e w' => e = .returned (.bool true) ∧ Below w.heap.size w w' := by
  have B0 : Below w.heap.size w ((w.alloc (.cells (row st) 29)).alloc (.cells (bytes b) 30)) := ((Below.refl _ _).alloc (Nat.le_refl _) _).alloc (by rw [size_al]; omega) _
  have hS : RoS w st b (((w.alloc (.cells (row st) 29)).alloc (.cells (bytes b) 30)).drew) := by
    refine ⟨?_, ?_, hk0.below (below_drewN B0 1) hk0.1, hk1.below (below_drewN B0 1) hk1.1, below_drewN B0 1⟩
    · show ((w.alloc (.cells (row st) 29)).alloc (.cells (bytes b) 30)).heap[_]? = _
      rw [Below.heap_alloc _ _ _ (by rw [size_al]; omega), heap_alloc_new]
    · exact new2 _ _ _
  have HS := Lib.hid hS; have Hh := Lib.hid hh; have Hb := Lib.hid hb
  clear hS B0 hk0 hk1 hh hb
  go_enter Tryd.func6, Tryd.ntmps6
  go_wp2_with fail
  refine start_ (n := 11) (S := RoS w st b) (ds := []) #[false, false, false, false, false, false, false, false, false, false, false] (by kernel_rfl) rfl rfl HS.out (fun hHeld => ?_)
  refine take_ (i := 0) (N := some 5) (v := .agg (row st)) #[true, false, false, false, false, false, false, false, false, false, false] rfl rfl (by kernel_rfl) (fun _ _ _ h => h) (Or.inl ⟨by rfl, fun w' hw' => exec_load 29 _ rfl _ rfl _ (hw'.load29 Hh.out)⟩) hHeld rfl ?_
  simp only [Act.put, List.setIfInBounds_toArray, List.set_cons_zero, List.set_cons_succ]
  refine take_ (i := 1) (N := some 6) (v := .agg (bytes b)) #[true, true, false, false, false, false, false, false, false, false, false] rfl rfl (by kernel_rfl) (fun _ _ _ h => h) (Or.inl ⟨by rfl, fun w' hw' => exec_load 30 _ rfl _ rfl _ (hw'.load30 Hb.out)⟩) hHeld rfl ?_
  simp only [Act.put, List.setIfInBounds_toArray, List.set_cons_zero, List.set_cons_succ]
  refine take_ (i := 3) (N := some 8) (v := .agg (row st)) #[true, true, false, true, false, false, false, false, false, false, false] rfl rfl (by kernel_rfl) (fun _ _ _ h => h) (Or.inl ⟨by rfl, fun w' hw' => exec_load 29 _ rfl _ rfl _ (hw'.load29 Hh.out)⟩) hHeld rfl ?_
  simp only [Act.put, List.setIfInBounds_toArray, List.set_cons_zero, List.set_cons_succ]
  refine take_ (i := 4) (N := some 9) (v := .agg (bytes b)) #[true, true, false, true, true, false, false, false, false, false, false] rfl rfl (by kernel_rfl) (fun _ _ _ h => h) (Or.inl ⟨by rfl, fun w' hw' => exec_load 30 _ rfl _ rfl _ (hw'.load30 Hb.out)⟩) hHeld rfl ?_
  simp only [Act.put, List.setIfInBounds_toArray, List.set_cons_zero, List.set_cons_succ]
  refine one_ (i := 2) (N := some 7) #[true, true, true, true, true, false, false, false, false, false, false] rfl rfl (by kernel_rfl) (by simp) (fun K hK => ?_)
  refine goes_ Tryd.func11 (by kernel_rfl) rfl #[.agg (row st), .agg (bytes b)] (by rfl) rfl rfl (by simp only [List.map_toArray, List.map_cons, List.map_nil]; rfl) ?_
  refine (rnd_any st b _ Hh.out Hb.out hHeld.2.2.1).mono ?_
  rintro e w1 ⟨rfl, hb1⟩
  refine ⟨_, rfl, hK.out _ _ (hHeld.step hb1) (fun hHeld1 => ?_)⟩
  clear hK K
  simp only [Act.put, List.setIfInBounds_toArray, List.set_cons_zero, List.set_cons_succ]
  refine one_ (i := 5) (N := some 10) #[true, true, true, true, true, true, false, false, false, false, false] rfl rfl (by kernel_rfl) (by simp) (fun K hK => ?_)
  refine goes_ Tryd.func12 (by kernel_rfl) rfl #[.agg (row st), .agg (bytes b)] (by rfl) rfl rfl (by simp only [List.map_toArray, List.map_cons, List.map_nil]; rfl) ?_
  refine (ref_rnd st b _ Hh.out Hb.out hHeld1.2.2.2.1).mono ?_
  rintro e w2 ⟨rfl, hb2⟩
  refine ⟨_, rfl, hK.out _ _ (hHeld1.step hb2) (fun hHeld2 => ?_)⟩
  clear hK K
  simp only [Act.put, List.setIfInBounds_toArray, List.set_cons_zero, List.set_cons_succ]
  refine pure_ (i := 6) (N := some 11) (v := .bool true) #[true, true, true, true, true, true, true, false, false, false, false] rfl rfl (by kernel_rfl) (fun _ _ _ h => h) (Or.inl ⟨by rfl, ?eq⟩) rfl ?_
  case eq =>
    intro w'
    have he := eq29 w' (roundF KK st b) (roundF_length _ _ _)
    go_simp
  simp only [Act.put, List.setIfInBounds_toArray, List.set_cons_zero, List.set_cons_succ]
  refine pure_ (i := 7) (N := some 12) (v := .bool true) #[true, true, true, true, true, true, true, true, false, false, false] rfl rfl (by kernel_rfl) (fun _ _ _ h => h) (Or.inl ⟨by rfl, ?mv⟩) rfl ?_
  case mv => intro w'; go_simp
  simp only [Act.put, List.setIfInBounds_toArray, List.set_cons_zero, List.set_cons_succ]
  refine one_ (i := 8) (N := some 13) #[true, true, true, true, true, true, true, true, true, false, false] rfl rfl (by kernel_rfl) (by simp) (fun K hK => ?_)
  refine goes_ Tryd.func3 (by kernel_rfl) rfl #[] (by rfl) rfl rfl (by simp only [List.map_toArray, List.map_nil]) ?_
  refine (runs_any _ hHeld2.2.2.1).mono ?_
  rintro e w3 ⟨rfl, hb3⟩
  refine ⟨_, rfl, hK.out _ _ (hHeld2.step hb3) (fun hHeld3 => ?_)⟩
  clear hK K
  simp only [Act.put, List.setIfInBounds_toArray, List.set_cons_zero, List.set_cons_succ]
  refine pure_ (i := 9) (N := some 14) (v := .bool true) #[true, true, true, true, true, true, true, true, true, true, false] rfl rfl (by kernel_rfl) (fun _ _ _ h => h) (Or.inl ⟨by rfl, ?pk⟩) rfl ?_
  case pk => intro w'; go_simp
  simp only [Act.put, List.setIfInBounds_toArray, List.set_cons_zero, List.set_cons_succ]
  refine pure_ (i := 10) (N := some 4) (v := .bool true) #[true, true, true, true, true, true, true, true, true, true, true] rfl rfl (by kernel_rfl) (fun _ _ _ h => h) (Or.inl ⟨by rfl, ?asg⟩) rfl ?_
  case asg => intro w'; go_simp
  simp only [Act.put, List.setIfInBounds_toArray, List.set_cons_zero, List.set_cons_succ]
  refine done_ (by kernel_rfl) ?_
  go_wp2_with fail
  go_ret
  exact ⟨rfl, hHeld3.2.2.2.2⟩
end Sha
end Go.Proofs.YteldcnllpokfdaaDoor
