/- How the rows' arguments are opened: bytes that came in. -/
import Derived.Test.YtlhllbnoifppeaaRuns
import Derived.Test.YtlhllbnoifppeaaRows
import Derived.ProofKit
import Derived.OpenShut
import Derived.ShutString
import Derived.SizedLaws
import Derived.ChangeOld
import Derived.Carry
namespace Go.Proofs.Ytlhllbnoifppeaa
namespace Dk
open Go.RowKit
theorem c5 : Try.prog.cellsOf 5 = 1 := by kernel_rfl
theorem laidOut : laidOutB Try.prog = true := by kernel_rfl
theorem wf_u8 {x : Int} (h : (Lit.int .u8 x).wf = true) : 0 ≤ x ∧ x ≤ 255 := by
  simp only [Lit.wf, Bool.and_eq_true, decide_eq_true_iff] at h
  exact h
open Go.ChangeShapes Go.WideShapes Go.ChangeAt in
theorem open_bytes {H : Type} {enc : TypeId × Value → H} {w : World} {b0 : Nat} {r : Reach} {v : Value} {d : DataW H} {p : List MemPlace}
    (hv : Value.okWide Try.prog w r b0 25 v) (h : DataW.Trod enc Try.prog w 0 (fun _ => true) true 25 v d p) :
    ∃ (A : Option Addr) (bs : List Int) (c : Nat), v = .slice A bs.length c ∧ bs.length ≤ c ∧ bs.length ≤ 9223372036854775807 ∧ Src w A bs ∧ ∀ x ∈ bs, (Lit.int .u8 x).wf = true := by
  obtain ⟨a0, len, cap, rfl⟩ := okWide_slice Try.underlying25 hv
  obtain ⟨fuel, hf⟩ := h
  rcases open_ints Try.underlying25 Try.underlying5 c5 hf with ⟨hcs, _⟩ | ⟨a, len', cap', zs, hcs, _, hl, hm, hz, _, hcell, hwz⟩
  · simp [Value.cells] at hcs
    obtain ⟨rfl, rfl, rfl⟩ := hcs
    exact ⟨none, [], 0, rfl, Nat.le_refl _, by simp, fun h => by simp at h, by simp⟩
  · simp [Value.cells] at hcs
    obtain ⟨rfl, rfl, rfl⟩ := hcs
    simp only [if_true] at hz
    have hlen : (zs.take len).length = len := by simp; omega
    unfold maxLen at hm
    refine ⟨some a, zs.take len, cap, by rw [hlen], by omega, by omega, fun hp => ?_, fun x hx => hwz x (List.mem_of_mem_take hx)⟩
    have h0 := hcell 0 (by omega)
    have hb := block_lt_of_cell h0
    rw [add_block] at hb
    refine ⟨a, rfl, hb, fun j v hv => ?_⟩
    rw [List.getElem?_map, List.getElem?_take] at hv
    split at hv
    · have hj : j < zs.length := by omega
      rw [hcell j hj]
      rw [List.getElem?_eq_getElem hj] at hv
      simp at hv
      rw [← hv]
      simp [List.getD_eq_getElem?_getD, hj]
    · simp at hv
end Dk
end Go.Proofs.Ytlhllbnoifppeaa
