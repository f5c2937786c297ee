/- What the rows' condition gives the walks: where the listed tables hold what their initialisers lay, the walks' tables of keys do. No other condition. -/
import Derived.Test.YteldcnllpokfdaaDoorRuns
import Derived.Test.YteldcnllpokfdaaDoorRows
import Derived.Lib.LaidTab
import Derived.LaidMore
import Derived.Stop.Joined
import Derived.Stop.LaidErr
import Derived.ProofKit
import Derived.OpenShut
import Derived.ShutString
import Derived.SizedLaws
import Derived.ChangeOld
namespace Go.Proofs.YteldcnllpokfdaaDoor
namespace Sha
open Go.RowKit
theorem own : ownKnob Tryd.prog.godebug = none := by kernel_rfl
theorem gKeys : Tryd.prog.globalNamed "sordine/sha.keys" = some 0 := by kernel_rfl
theorem gK : Tryd.prog.globalNamed "sordine/sordineref1.k" = some 1 := by kernel_rfl
theorem tKeys : (Tryd.prog.globals[0]?).map (·.type) = some 36 := by kernel_rfl
theorem tK : (Tryd.prog.globals[1]?).map (·.type) = some 36 := by kernel_rfl
theorem c28 : Tryd.prog.cellsOf 28 = 1 := by kernel_rfl
theorem c36 : Tryd.prog.cellsOf 36 = 64 := by kernel_rfl
abbrev laid1 : List (String × DataW Unit) := [("sordine/sha.keys", Rows.laid_sordine_sha_keys)]
abbrev laid2 : List (String × DataW Unit) := [("sordine/sha.keys", Rows.laid_sordine_sha_keys), ("sordine/sordineref1.k", Rows.laid_sordine_sordineref1_k)]
theorem laid_is : (Rows.laid_sordine_sha_keys : DataW Unit) = Lib.tabData .u32 KK := rfl
theorem laid_is2 : (Rows.laid_sordine_sordineref1_k : DataW Unit) = Lib.tabData .u32 KK := rfl
theorem keys_of_tab {W : World} {name : String} {g : Nat} (hg : Tryd.prog.globalNamed name = some g) (h : Lib.TabIs Tryd.prog W name .u32 KK) : Keys g W :=
  ⟨block_lt_of_cell (h.cell hg 0 (by simp [KK_length])), fun j hj => h.cell hg j (by rw [KK_length]; exact hj)⟩
theorem keys_of {W : World} {rest : List (String × DataW Unit)} (h : laidMet Tryd.prog (("sordine/sha.keys", Rows.laid_sordine_sha_keys) :: rest) W) : Keys 0 W :=
  keys_of_tab gKeys (Lib.tabIs_of_head (zs := KK) gKeys tKeys Tryd.underlying36 Tryd.underlying28 c28 c36 (by rw [← laid_is]; exact h))
theorem keys_of1 {W : World} (h : laidMetH Tryd.prog laid1 W) : Keys 0 W := by
  rw [MakeChecks.laidMetH_plain _ _ _ (by kernel_rfl)] at h
  exact keys_of h
theorem keys_of2 {W : World} (h : laidMetH Tryd.prog laid2 W) : Keys 0 W ∧ Keys 1 W := by
  rw [MakeChecks.laidMetH_plain _ _ _ (by kernel_rfl)] at h
  exact ⟨keys_of h, keys_of_tab gK (Lib.tabIs_of_head (zs := KK) (rest := []) gK tK Tryd.underlying36 Tryd.underlying28 c28 c36 (by rw [← laid_is2]; exact laidMet.tail h))⟩
theorem door_met1 (os : Os) (args : Array Value) : laidMetH Tryd.prog laid1 ((World.doorLaid Tryd.prog 400 os).forCall (fun _ _ => 0) ⟨#[], args, []⟩).memory :=
  laidMetH_of_parts3 (fuel := 8) (laidMet_of_run' 8 (by kernel_rfl) (by kernel_rfl)) (by kernel_rfl) (by kernel_rfl)
theorem door_met2 (os : Os) (args : Array Value) : laidMetH Tryd.prog laid2 ((World.doorLaid Tryd.prog 400 os).forCall (fun _ _ => 0) ⟨#[], args, []⟩).memory :=
  laidMetH_of_parts3 (fuel := 8) (laidMet_of_run' 8 (by kernel_rfl) (by kernel_rfl)) (by kernel_rfl) (by kernel_rfl)
theorem c5 : Tryd.prog.cellsOf 5 = 1 := by kernel_rfl
theorem c29 : Tryd.prog.cellsOf 29 = 8 := by kernel_rfl
theorem c30 : Tryd.prog.cellsOf 30 = 64 := by kernel_rfl
theorem laidOut : laidOutB Tryd.prog = true := by kernel_rfl
theorem open_arr {H : Type} {enc : TypeId × Value → H} {P : Program} {w : World} {base b0 : Nat} {spare : Nat → Bool} {held : Bool} {r : Reach} {t e : TypeId} {n : Nat} {k : IntKind} {v : Value} {d : DataW H} {p : List MemPlace}
    (ht : P.underlying t = some (.array n e)) (he : P.underlying e = some (.int k)) (hce : P.cellsOf e = 1) (hct : P.cellsOf t = n)
    (hv : Value.okWide P w r b0 t v) (h : DataW.Trod enc P w base spare held t v d p) : ∃ zs : List Int, zs.length = n ∧ v = .agg (zs.map (Value.int k)).toArray ∧ p = [] := by
  simp only [Value.okWide, ht] at hv
  obtain ⟨cs, rfl, hsz, _⟩ := hv
  obtain ⟨fuel, hf⟩ := h
  obtain ⟨xs, m, rfl, hx, hlen, hn, hel⟩ := DataW.trod_array ht hf
  rw [hce] at hel
  have hcl : cs.toList.length = n := by simpa [Value.cells, hct] using hlen
  have each : ∀ i, i < n → ∃ z, cs.toList[i]? = some (.int k z) ∧ xs[i]?.map (·.2) = some [] := fun i hi => by
    have h1 := hel i hi
    have h2 : xs[i]? = some (xs[i]'(by omega)) := List.getElem?_eq_getElem (by omega)
    rw [h2] at h1
    obtain ⟨z, hz, hxz, _⟩ := DataW.trod_int he h1
    refine ⟨z, ?_, ?_⟩
    · have := congrArg (·[0]?) hz
      simpa [Value.cells, List.getElem?_take, List.getElem?_drop] using this
    · rw [h2, hxz]; rfl
  refine ⟨cs.toList.map (fun v => match v with | .int _ z => z | _ => 0), by simpa using hcl, ?_, ?_⟩
  · congr 1
    apply Array.toList_inj.1
    simp only [List.map_map]
    apply List.ext_getElem?
    intro i
    by_cases hi : i < n
    · obtain ⟨z, hz, _⟩ := each i hi
      rw [List.getElem?_map, hz]; rfl
    · rw [List.getElem?_eq_none (by omega), List.getElem?_eq_none (by simp; simp at hcl; omega)]
  · have hp : p = xs.flatMap (·.2) := (Prod.mk.inj hx).2
    rw [hp, List.flatMap_eq_nil_iff]
    intro x hxm
    obtain ⟨i, hi, rfl⟩ := List.getElem_of_mem hxm
    obtain ⟨_, _, h2⟩ := each i (by omega)
    rw [List.getElem?_eq_getElem hi] at h2
    simpa using h2
open Go.ChangeShapes Go.WideShapes Go.ChangeAt in
theorem open_bytes {H : Type} {enc : TypeId × Value → H} {w : World} {b0 : Nat} {r : Reach} {v : Value} {d : DataW H} {p : List MemPlace}
    (hv : Value.okWide Tryd.prog w r b0 24 v) (h : DataW.Trod enc Tryd.prog w 0 (fun _ => true) true 24 v d p) :
    ∃ (A : Option Addr) (bs : List Int) (c : Nat), v = .slice A bs.length c ∧ bs.length ≤ c ∧ bs.length ≤ 9223372036854775807 ∧ Src w A bs ∧ ∀ x ∈ bs, (Lit.int .u8 x).wf = true := by
  obtain ⟨a0, len, cap, rfl⟩ := okWide_slice Tryd.underlying24 hv
  obtain ⟨fuel, hf⟩ := h
  rcases open_ints Tryd.underlying24 Tryd.underlying5 c5 hf with ⟨hcs, _⟩ | ⟨a, len', cap', zs, hcs, _, hl, hm, hz, _, hcell, hwz⟩
  · simp [Value.cells] at hcs
    obtain ⟨rfl, rfl, rfl⟩ := hcs
    exact ⟨none, [], 0, rfl, Nat.le_refl _, by simp, fun h => by simp at h, by simp⟩
  · simp [Value.cells] at hcs
    obtain ⟨rfl, rfl, rfl⟩ := hcs
    simp only [if_true] at hz
    have hlen : (zs.take len).length = len := by simp; omega
    unfold maxLen at hm
    refine ⟨some a, zs.take len, cap, by rw [hlen], by omega, by omega, fun hp => ?_, fun x hx => hwz x (List.mem_of_mem_take hx)⟩
    have h0 := hcell 0 (by omega)
    have hb := block_lt_of_cell h0
    rw [add_block] at hb
    refine ⟨a, rfl, hb, fun j v hv => ?_⟩
    rw [List.getElem?_map, List.getElem?_take] at hv
    split at hv
    · have hj : j < zs.length := by omega
      rw [hcell j hj]
      rw [List.getElem?_eq_getElem hj] at hv
      simp at hv
      rw [← hv]
      simp [List.getD_eq_getElem?_getD, hj]
    · simp at hv
end Sha
end Go.Proofs.YteldcnllpokfdaaDoor
