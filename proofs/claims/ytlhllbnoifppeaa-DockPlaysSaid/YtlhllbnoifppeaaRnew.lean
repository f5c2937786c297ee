/- The contracts of the reference's Held and NewDock. -/
import Derived.Test.YtlhllbnoifppeaaRrep
namespace Go.Proofs.Ytlhllbnoifppeaa
namespace Dk
open Go.RowKit
set_option maxHeartbeats 4000000
set_option maxRecDepth 100000
theorem held_any (w : World) (a : Int) : Calls Try.prog 19 #[.int .i64 a, .int .i64 1, .int .i64 8] w fun e w' => e = .returned (.int .i64 (held a)) ∧ w' = w := by
  by_cases h1 : a < 1
  · have hh : held a = 1 := by unfold held; omega
    rw [hh]
    go_enter Try.func19, Try.ntmps19
    go_wp2_with fail
    go_ret
    exact ⟨rfl, rfl⟩
  · by_cases h2 : 8 < a
    · have hh : held a = 8 := by unfold held; omega
      rw [hh]
      go_enter Try.func19, Try.ntmps19
      go_wp2_with fail
      go_ret
      exact ⟨rfl, rfl⟩
    · have hh : (held a : Int) = a := by unfold held; omega
      rw [hh]
      go_enter Try.func19, Try.ntmps19
      go_wp2_with fail
      go_ret
      exact ⟨rfl, rfl⟩
theorem info39 : (Try.prog.info? 39).map (fun i => (i.zero, i.size, i.bytes)) = some (some (.slice none 0 0), 1, 24) := by kernel_rfl
def nils (n : Nat) : Array Value := madeCells (Value.slice none 0 0).cells n
theorem nils_at {n i : Nat} (hi : i < n) : (nils n)[i]? = some (.slice none 0 0) := by
  unfold nils madeCells
  simp [Value.cells, hi, Nat.mod_one]
theorem make_nils (w : World) (n : Nat) (hn : n ≤ 8) : (Instr.makeSlice 36 (.int .i64 n) (.int .i64 n)).run Try.prog w = .ok (.slice (some ⟨w.heap.size, 0, none⟩) n n) (w.alloc (.cells (nils n) 39)) := by
  obtain ⟨i0, hi, hz0, hz1, hz2⟩ := info_parts info39
  have h := run_make (P := Try.prog) w 36 39 i0 (.slice none 0 0) Try.underlying36 hi hz0 .i64 .i64 (n : Int) (n : Int) (by omega) (Int.le_refl _) (by rw [hz2]; omega) (by omega)
  rw [h, hz1, Int.toNat_natCast, Nat.mul_one]
  rfl
theorem rnew_any (w : World) (a b : Int) : Calls Try.prog 13 #[.int .i64 a, .int .i64 b] w fun e w' => e = .returned (.pointer (some ⟨w.heap.size + 1, 0, none⟩)) ∧ Below w.heap.size w w' ∧
    RRep (fun k => w.heap.size ≤ k ∧ k < w'.heap.size) w' (w.heap.size + 1) w.heap.size (held b) (List.replicate (held a) []) 0 0 := by
  go_enter Try.func13, Try.ntmps13
  go_wp2_with fail
  refine (held_any w b).mono ?_
  rintro e w1 ⟨rfl, rfl⟩
  go_wp2_with fail
  refine (held_any w1 a).mono ?_
  rintro e w2 ⟨rfl, rfl⟩
  obtain ⟨h1, h8⟩ := held_le a
  obtain ⟨n, hn⟩ : ∃ n, held a = n := ⟨_, rfl⟩
  rw [hn] at h1 h8 ⊢
  have hm := make_nils w2 n h8
  go_wp2_with fail
  go_ret
  obtain ⟨W, hW⟩ : ∃ W, W = w2.alloc (.cells (nils n) 39) := ⟨_, rfl⟩
  have hs : W.heap.size = w2.heap.size + 1 := by rw [hW, size_al]
  refine ⟨rfl, ((Below.refl _ _).alloc (Nat.le_refl _) _).alloc (by rw [size_al]; omega) _, ?_, ?_, ?_, nils n, ?_, fun i l hl => ?_⟩
  · rw [List.length_replicate, ← hs, hW, hn]
    exact heap_alloc_new _ _
  · simp only [size_al]; omega
  · simp only [size_al]; omega
  · rw [Below.heap_alloc _ _ _ (by rw [size_al]; omega)]
    exact heap_alloc_new _ _
  · rw [List.getElem?_replicate] at hl
    split at hl
    · rename_i hin
      rw [hn] at hin
      obtain rfl := Option.some.inj hl
      exact ⟨_, nils_at hin, [], ⟨none, 0, rfl, Nat.le_refl _, fun _ => rfl, fun h => by simp at h⟩, rfl, fun j u bs hu => by simp at hu⟩
    · cases hl
end Dk
end Go.Proofs.Ytlhllbnoifppeaa
