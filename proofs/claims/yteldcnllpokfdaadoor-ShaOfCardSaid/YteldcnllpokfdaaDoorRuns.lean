/- The walks of ShaRuns and ShaNone: where the table of keys holds what its initialiser lays, each returns true, and what was there before the call is as it was; and the law by which two equal rows of words or bytes are equal in Go. -/
import Derived.Test.YteldcnllpokfdaaDoorOf
import Derived.Laws.StructEq
import Derived.Lib.SlBytesConst
namespace Go.Proofs.YteldcnllpokfdaaDoor
namespace Sha
open Go.RowKit
set_option maxHeartbeats 2000000
set_option maxRecDepth 1000000
theorem run_isAgg_int {P : Program} (w : World) (k : IntKind) (e : TypeId) (he : P.underlying e = some (.int k)) : (isAgg e).run P w = .ok false w := by
  unfold isAgg
  rw [Sem.run_bind, run_underlying he w]
  rfl
theorem run_equalIn_row {P : Program} (w : World) (k : IntKind) (d : Nat) (t e : TypeId) (n : Nat) (l : List Int) (hlen : l.length = n) (ht : P.underlying t = some (.array n e)) (he : P.underlying e = some (.int k)) (hs : (P.info? e).map (·.size) = some 1) :
    (Op.equalIn (d + 2) t (.agg (l.map (Value.int k)).toArray) (.agg (l.map (Value.int k)).toArray)).run P w = .ok true w := by
  cases hq : P.info? e with
  | none => simp [hq] at hs
  | some i =>
    have hi : i.size = 1 := by simpa [hq] using hs
    unfold Op.equalIn
    simp only [Sem.run_bind, run_underlying ht, Result.andThen_ok, sizeOf, typeInfo, run_program, hq, Sem.run_pure, hi, Nat.mul_one]
    rw [Std.Legacy.Range.forIn_eq_forIn_range']
    have key : ∀ is : List Nat, (∀ j ∈ is, j < n) → Sem.run P (forIn is (none, ()) fun i (__s : Option Bool × Unit) => do
            let __do_lift ← part e (List.map (Value.int k) l).toArray i
            let __do_lift_1 ← part e (List.map (Value.int k) l).toArray i
            let __do_lift ← Op.equalIn (d + 1) e __do_lift __do_lift_1
            if (!__do_lift) = true then pure (ForInStep.done (some false, ())) else pure (ForInStep.yield (none, ()))) w = .ok (none, ()) w := by
      intro is
      induction is with
      | nil => intro _; rfl
      | cons j js ih =>
        intro hj
        have hjn : j < l.length := by rw [hlen]; exact hj j (by simp)
        have hp : (part e (List.map (Value.int k) l).toArray j).run P w = .ok (.int k l[j]) w := by
          unfold part
          rw [Sem.run_bind, run_isAgg_int w k e he]
          simp [hjn]
        rw [List.forIn_cons]
        simp only [Sem.run_bind, hp, Result.andThen_ok, run_equalIn_int w d e k k _ _ he, beq_self_eq_true, Bool.not_true, Bool.false_eq_true, if_false, Sem.run_pure]
        exact ih (fun x hx => hj x (by simp [hx]))
    rw [key _ (by intro j hj; simp [List.mem_range'] at hj; omega)]
    rfl

theorem abc_is : OfF [97, 98, 99] = [186, 120, 22, 191, 143, 1, 207, 234, 65, 65, 64, 222, 93, 174, 34, 35, 176, 3, 97, 163, 150, 23, 122, 156, 180, 16, 255, 97, 242, 0, 21, 173] := by decide +kernel
theorem none_is : OfF [] = [227, 176, 196, 66, 152, 252, 28, 20, 154, 251, 244, 200, 153, 111, 185, 36, 39, 174, 65, 228, 100, 155, 147, 76, 164, 149, 153, 27, 120, 82, 184, 85] := by decide +kernel
theorem i5 : (Tryd.prog.info? 5).map (·.size) = some 1 := by kernel_rfl
theorem i28 : (Tryd.prog.info? 28).map (·.size) = some 1 := by kernel_rfl
theorem eq22 (w : World) (l : List Int) (h : l.length = 32) : (Op.equalIn 10000 22 (.agg (bytes l)) (.agg (bytes l))).run Tryd.prog w = .ok true w :=
  run_equalIn_row w .u8 9998 22 5 32 l h Tryd.underlying22 Tryd.underlying5 i5
theorem eq29 (w : World) (l : List Int) (h : l.length = 8) : (Op.equalIn 10000 29 (.agg (row l)) (.agg (row l))).run Tryd.prog w = .ok true w :=
  run_equalIn_row w .u32 9998 29 28 8 l h Tryd.underlying29 Tryd.underlying28 i28
theorem src_abc (w : World) : Src (w.alloc (.cells #[.int .u8 97, .int .u8 98, .int .u8 99] 5 (3, 4))) (some ⟨w.heap.size, 0, none⟩) [97, 98, 99] := fun _ => by
  refine ⟨_, rfl, by show w.heap.size < _; rw [size_al]; omega, fun j v hv => ?_⟩
  have h := cell_part (w.alloc (.cells (bytes [97, 98, 99]) 5 (3, 4))) w.heap.size 5 (3, 4) [97, 98, 99] 0 3 (heap_alloc_new _ _) j v
  exact h hv
theorem of_abc (w : World) (A : Option Addr) (hs : Src w A [97, 98, 99]) (hk : Keys 0 w) :
    Calls Tryd.prog 9 #[.slice A 3 3] w fun e w' => e = .returned (.agg (bytes (OfF [97, 98, 99]))) ∧ Below w.heap.size w w' := of_any [97, 98, 99] A 3 w (by simp) hs hk
theorem of_none (w : World) (hk : Keys 0 w) :
    Calls Tryd.prog 9 #[.slice none 0 0] w fun e w' => e = .returned (.agg (bytes (OfF []))) ∧ Below w.heap.size w w' := of_any [] none 0 w (by simp) (fun h => by simp at h) hk
theorem runs_any (w : World) (hk : Keys 0 w) : Calls Tryd.prog 3 #[] w fun e w' => e = .returned (.bool true) ∧ Below w.heap.size w w' := by
  have Hk := Lib.hid hk; clear hk
  have hB := (Below.refl w.heap.size w).alloc (Nat.le_refl _) (.cells #[.int .u8 97, .int .u8 98, .int .u8 99] 5 (3, 4))
  have HB := Lib.hid hB; clear hB
  have kc : (convert 24 24 (.slice (some ⟨w.heap.size, 0, none⟩) 3 3)).run Tryd.prog (w.alloc (.cells #[.int .u8 97, .int .u8 98, .int .u8 99] 5)) = .ok (.slice (some ⟨w.heap.size, 0, none⟩) 3 3) (w.alloc (.cells #[.int .u8 97, .int .u8 98, .int .u8 99] 5 (3, 4))) :=
    Lib.run_convert_bytes_const (P := Tryd.prog) w 24 5 #[.int .u8 97, .int .u8 98, .int .u8 99] 3 3 Tryd.underlying24 Tryd.underlying5
  go_enter Tryd.func3, Tryd.ntmps3
  go_wp2_with fail
  refine (of_abc _ (some ⟨w.heap.size, 0, none⟩) (src_abc w) (Hk.out.below HB.out Hk.out.1)).mono ?_
  rintro e w1 ⟨rfl, hb⟩
  rw [abc_is]
  have hb' := HB.out.trans (hb.mono (by rw [size_al]; omega))
  have Hb := Lib.hid hb'; clear hb hb'
  have he : (Op.equalIn 10000 22 (.agg (bytes [186, 120, 22, 191, 143, 1, 207, 234, 65, 65, 64, 222, 93, 174, 34, 35, 176, 3, 97, 163, 150, 23, 122, 156, 180, 16, 255, 97, 242, 0, 21, 173])) (.agg #[.int .u8 186, .int .u8 120, .int .u8 22, .int .u8 191, .int .u8 143, .int .u8 1, .int .u8 207, .int .u8 234, .int .u8 65, .int .u8 65, .int .u8 64, .int .u8 222, .int .u8 93, .int .u8 174, .int .u8 34, .int .u8 35, .int .u8 176, .int .u8 3, .int .u8 97, .int .u8 163, .int .u8 150, .int .u8 23, .int .u8 122, .int .u8 156, .int .u8 180, .int .u8 16, .int .u8 255, .int .u8 97, .int .u8 242, .int .u8 0, .int .u8 21, .int .u8 173])).run Tryd.prog w1 = .ok true w1 := eq22 w1 [186, 120, 22, 191, 143, 1, 207, 234, 65, 65, 64, 222, 93, 174, 34, 35, 176, 3, 97, 163, 150, 23, 122, 156, 180, 16, 255, 97, 242, 0, 21, 173] rfl
  go_wp2_with fail
  go_ret
  exact ⟨rfl, Hb.out⟩
theorem none_any (w : World) (hk : Keys 0 w) : Calls Tryd.prog 4 #[] w fun e w' => e = .returned (.bool true) ∧ Below w.heap.size w w' := by
  have Hk := Lib.hid hk; clear hk
  go_enter Tryd.func4, Tryd.ntmps4
  go_wp2_with fail
  refine (of_none _ Hk.out).mono ?_
  rintro e w1 ⟨rfl, hb⟩
  rw [none_is]
  have Hb := Lib.hid hb; clear hb
  have he : (Op.equalIn 10000 22 (.agg (bytes [227, 176, 196, 66, 152, 252, 28, 20, 154, 251, 244, 200, 153, 111, 185, 36, 39, 174, 65, 228, 100, 155, 147, 76, 164, 149, 153, 27, 120, 82, 184, 85])) (.agg #[.int .u8 227, .int .u8 176, .int .u8 196, .int .u8 66, .int .u8 152, .int .u8 252, .int .u8 28, .int .u8 20, .int .u8 154, .int .u8 251, .int .u8 244, .int .u8 200, .int .u8 153, .int .u8 111, .int .u8 185, .int .u8 36, .int .u8 39, .int .u8 174, .int .u8 65, .int .u8 228, .int .u8 100, .int .u8 155, .int .u8 147, .int .u8 76, .int .u8 164, .int .u8 149, .int .u8 153, .int .u8 27, .int .u8 120, .int .u8 82, .int .u8 184, .int .u8 85])).run Tryd.prog w1 = .ok true w1 := eq22 w1 [227, 176, 196, 66, 152, 252, 28, 20, 154, 251, 244, 200, 153, 111, 185, 36, 39, 174, 65, 228, 100, 155, 147, 76, 164, 149, 153, 27, 120, 82, 184, 85] rfl
  go_wp2_with fail
  refine (runs_any _ (Hk.out.below Hb.out Hk.out.1)).mono ?_
  rintro e w2 ⟨rfl, hb⟩
  have Hb2 := Lib.hid hb; clear hb he
  go_wp2_with fail
  go_ret
  exact ⟨rfl, Hb.out.trans (Hb2.out.mono Hb.out.size)⟩
end Sha
end Go.Proofs.YteldcnllpokfdaaDoor
