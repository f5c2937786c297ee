/- How DockPlays' argument is opened: the steps that came in. -/
import Derived.Test.YtlhllbnoifppeaaPlays
import Derived.Test.YtlhllbnoifppeaaLaid
import Derived.Deep.Strs
namespace Go.Proofs.Ytlhllbnoifppeaa
namespace Dk
open Go.RowKit Go.ChangeShapes Go.WideShapes Go.ChangeAt
theorem c3 : Try.prog.cellsOf 3 = 1 := by kernel_rfl
theorem c4 : Try.prog.cellsOf 4 = 1 := by kernel_rfl
theorem c25 : Try.prog.cellsOf 25 = 1 := by kernel_rfl
theorem c35 : Try.prog.cellsOf 35 = 3 := by kernel_rfl
theorem bytes_of_trod {H : Type} {enc : TypeId × Value → H} {w : World} {fuel : Nat} {cs : List Value} {x : DataW H × List MemPlace}
    (hf : DataW.trod enc Try.prog w 0 (fun _ => true) true fuel 25 cs = some x) :
    ∃ (A : Option Addr) (bs : List Int) (c : Nat), cs = [.slice A bs.length c] ∧ (A = none → c = 0) ∧ bs.length ≤ 9223372036854775807 ∧ Src w A bs := by
  rcases open_ints Try.underlying25 Try.underlying5 c5 hf with ⟨hcs, _⟩ | ⟨a, len', cap', zs, hcs, _, hl, hm, hz, _, hcell, hwz⟩
  · exact ⟨none, [], 0, hcs, fun _ => rfl, by simp, fun h => by simp at h⟩
  · simp only [if_true] at hz
    have hlen : (zs.take len').length = len' := by simp; omega
    unfold maxLen at hm
    refine ⟨some a, zs.take len', cap', by rw [hlen]; exact hcs, fun h => by (cases h), by omega, fun hp => ?_⟩
    have h0 := hcell 0 (by omega)
    have hb := block_lt_of_cell h0
    rw [add_block] at hb
    refine ⟨a, rfl, hb, fun j v hv => ?_⟩
    rw [List.getElem?_map, List.getElem?_take] at hv
    split at hv
    · have hj : j < zs.length := by omega
      rw [hcell j hj]
      rw [List.getElem?_eq_getElem hj] at hv
      simp at hv
      rw [← hv]
      simp [List.getD_eq_getElem?_getD, hj]
    · simp at hv
theorem list_of {α : Type} {P : Nat → α → Prop} : ∀ n, (∀ i, i < n → ∃ s, P i s) → ∃ l : List α, l.length = n ∧ ∀ (j : Nat) (s : α), l[j]? = some s → P j s
  | 0, _ => ⟨[], rfl, fun j s h => by simp at h⟩
  | n + 1, h => by
    obtain ⟨l, hl, hp⟩ := list_of n (fun i hi => h i (by omega))
    obtain ⟨s, hs⟩ := h n (by omega)
    refine ⟨l ++ [s], by simp [hl], fun j u hu => ?_⟩
    by_cases hj : j < l.length
    · rw [List.getElem?_append_left hj] at hu
      exact hp j u hu
    · have hjl : j = l.length := by
        have := (List.getElem?_eq_some_iff.1 hu).1
        simp at this
        omega
      subst hjl
      rw [List.getElem?_append_right (Nat.le_refl _)] at hu
      simp at hu
      subst hu
      rw [hl]
      exact hs
theorem add_off (a : Addr) (j : Nat) : (a.add j).off = a.off + j := by
  unfold Addr.add
  split
  · subst_vars; rfl
  · rfl
theorem spot_of_cell {w : World} {a : Addr} {v : Value} (h : w.cell? a = some v) : a = ⟨a.block, a.off, none⟩ := by
  obtain ⟨b, o, sp⟩ := a
  cases sp with
  | none => rfl
  | some k =>
    unfold World.cell? at h
    revert h
    cases w.heap[(⟨b, o, some k⟩ : Addr).block]? with
    | none => intro h; cases h
    | some o => cases o <;> intro h <;> simp at h
theorem open_steps {H : Type} {enc : TypeId × Value → H} {w : World} {b0 : Nat} {r : Reach} {v : Value} {d : DataW H} {p : List MemPlace}
    (hv : Value.okWide Try.prog w r b0 31 v) (h : DataW.Trod enc Try.prog w 0 (fun _ => true) true 31 v d p) :
    ∃ (Al : Option Addr) (l : List Stp) (c : Nat), v = .slice Al l.length c ∧ l.length ≤ 9223372036854775807 ∧ Steps w Al l := by
  obtain ⟨a0, len, cap, rfl⟩ := okWide_slice Try.underlying31 hv
  obtain ⟨fuel, hf⟩ := h
  rcases DataW.trod_slice Try.underlying31 hf with ⟨hcs, _⟩ | ⟨a, len', cap', elems, rest, n, _, hcs, _, _, hl, hm, hlen, hel, _, _⟩
  · simp [Value.cells] at hcs
    obtain ⟨rfl, rfl, rfl⟩ := hcs
    exact ⟨none, [], 0, rfl, by simp, fun h => by simp at h⟩
  · simp [Value.cells] at hcs
    obtain ⟨rfl, rfl, rfl⟩ := hcs
    have each : ∀ i, i < len → ∃ s : Stp, w.cell? ⟨a.block, a.off + i * 3, none⟩ = some (.bool s.take) ∧ w.cell? ⟨a.block, a.off + i * 3 + 1, none⟩ = some (.int .i64 s.lane) ∧
        w.cell? ⟨a.block, a.off + i * 3 + 2, none⟩ = some (.slice s.A s.bs.length s.c) ∧ (s.A = none → s.c = 0) ∧ Src w s.A s.bs ∧ s.bs.length ≤ 9223372036854775807 ∧ w.cell? (a.add (i * 3)) = some (.bool s.take) := fun i hi => by
      have h1 := hel i hi
      rw [List.getElem?_eq_getElem (by omega), c35, Option.bind_eq_some_iff] at h1
      obtain ⟨cs, hcs, htr⟩ := h1
      obtain ⟨_, hcl, hce⟩ := World.cells?_some hcs
      obtain ⟨y0, y1, y2, n', _, _, t0, t1, t2⟩ := Go.Deep.trod_struct3 Try.underlying35 htr
      obtain ⟨q0, q1, q2, rfl⟩ : ∃ q0 q1 q2, cs = [q0, q1, q2] := by
        match cs, hcl with
        | [q0, q1, q2], _ => exact ⟨q0, q1, q2, rfl⟩
      simp only [c3, c4, c25, List.drop_zero, List.drop_succ_cons, List.take_succ_cons, List.take_zero] at t0 t1 t2
      obtain ⟨tk, e0, _⟩ := DataW.trod_bool Try.underlying4 t0
      obtain ⟨ln, e1, _⟩ := DataW.trod_int Try.underlying3 t1
      obtain ⟨A, bs, c, e2, hA, hbl, hsr⟩ := bytes_of_trod t2
      have k0 := hce 0 (by omega)
      have k1 := hce 1 (by omega)
      have k2 := hce 2 (by omega)
      obtain rfl := List.cons.inj e0 |>.1
      obtain rfl := List.cons.inj e1 |>.1
      obtain rfl := List.cons.inj e2 |>.1
      have s0 : w.cell? (a.add (i * 3)) = some (.bool tk) := by simpa [Addr.add] using k0
      have a1 : a.add (i * 3) = ⟨a.block, a.off + i * 3, none⟩ := by
        have := spot_of_cell s0
        rw [add_block, add_off] at this
        exact this
      rw [a1, add_flat] at k1 k2
      exact ⟨⟨tk, ln, A, bs, c⟩, by rw [← a1]; exact s0, k1, k2, hA, hsr, hbl, s0⟩
    obtain ⟨l, hll, hP⟩ := list_of len each
    unfold maxLen at hm
    refine ⟨some a, l, cap, by rw [hll], by omega, fun hp => ?_⟩
    obtain ⟨s, hs⟩ : ∃ s, l[0]? = some s := ⟨_, List.getElem?_eq_getElem hp⟩
    have h0 := (hP 0 s hs).2.2.2.2.2.2
    have h00 : w.cell? a = some (.bool s.take) := by simpa [Addr.add] using h0
    refine ⟨a.block, a.off, by rw [← spot_of_cell h00], block_lt_of_cell h00, fun j s hj => ?_⟩
    obtain ⟨k0, k1, k2, k3, k4, k5, _⟩ := hP j s hj
    exact ⟨k0, k1, k2, k3, k4, k5⟩
end Dk
end Go.Proofs.Ytlhllbnoifppeaa
