/- ClockGoes: time that goes on never makes a state an earlier one nor brings back what is gone. No conditions beyond the kinds of the numbers. -/
import Derived.Test.YtfohfdbclipgfaaPClockGoesx1
namespace Go.Proofs.Ytfohfdbclipgfaa.Pure
open Go.RowKit Go.Proofs.Ytfohfdbclipgfaa.PClockGoes Go.Proofs.YtfohfdbclipgfaaW.PrintWords Go.Proofs.YtfohfdbclipgfaaW.PrintLast

theorem u64_of {a : Int} (h : (Lit.int .u64 a).wf = true) : 0 ≤ a ∧ a < 18446744073709551616 := by
  have h' : (decide (IntKind.u64.min ≤ a) && decide (a ≤ IntKind.u64.max)) = true := h
  rw [Bool.and_eq_true] at h'
  have h3 := of_decide_eq_true h'.1
  have h4 := of_decide_eq_true h'.2
  have h1 : IntKind.u64.min = 0 := rfl
  have h2 : IntKind.u64.max = 18446744073709551615 := rfl
  omega

theorem wrapu (a : Int) : IntKind.u64.wrap a = a % 18446744073709551616 := by
  have h1 : IntKind.u64.signed = false := rfl
  have h2 : IntKind.u64.bits = 64 := rfl
  simp [IntKind.wrap, h1, h2]

theorem runs_true : sordinelaw11_ClockRuns.f = some true := by
  simp [sordinelaw11_ClockRuns.f, clock_State.f, clock_Gone.f, wrapu]

theorem ClockGoes : sordinelaw11_ClockGoes.Pure := by
  intro a0 a1 a2 a3 a4 w0 w1 w2 w3 w4
  have b0 := u64_of w0
  have b1 := u64_of w1
  have b2 := u64_of w2
  have b3 := u64_of w3
  have b4 := u64_of w4
  refine ⟨1, ?_⟩
  unfold sordinelaw11_ClockGoes.f
  by_cases h : a0 ≤ 1099511627776 ∧ a1 ≤ 1099511627776 - a0
  · obtain ⟨h1, h2⟩ := h
    have e1 : clock_Tick.f a0 a1 = some (a0 + a1, true) := by
      unfold clock_Tick.f
      rw [if_neg (by omega), wrapu, wrapu, if_neg (by omega)]
      congr 2
      omega
    have hs : ∃ t109 t110, clock_State.f (a0 + a1) a2 a3 = some t109 ∧ clock_State.f a0 a2 a3 = some t110 ∧ t110 ≤ t109 ∧ (a3 ≤ a0 → t110 = 3) := by
      unfold clock_State.f
      by_cases g1 : a0 ≥ a3
      · rw [if_pos (by omega), if_pos g1]; exact ⟨_, _, rfl, rfl, by omega, by omega⟩
      · rw [if_neg g1]
        by_cases g2 : a0 + a1 ≥ a3
        · rw [if_pos g2]; split
          · exact ⟨_, _, rfl, rfl, by omega, by omega⟩
          · exact ⟨_, _, rfl, rfl, by omega, by omega⟩
        · rw [if_neg g2]
          by_cases g3 : a0 < a2
          · rw [if_pos g3]; split
            · exact ⟨_, _, rfl, rfl, by omega, by omega⟩
            · exact ⟨_, _, rfl, rfl, by omega, by omega⟩
          · rw [if_neg g3, if_neg (by omega)]; exact ⟨_, _, rfl, rfl, by omega, by omega⟩
    obtain ⟨t109, t110, e2, e3, hle, h3⟩ := hs
    rw [e1, Option.bind_some]
    dsimp only
    rw [if_pos rfl, if_neg (by omega), wrapu, if_pos (by omega), if_neg (by omega), e2, Option.bind_some, e3, Option.bind_some, decide_eq_false (by omega)]
    simp only [sordinelaw11_ClockGoes.j0]
    rw [if_neg (by simp)]
    have g : clock_Gone.f a0 a3 a4 = some (decide (a3 ≤ a0 ∧ a4 ≤ a0 - a3)) := by
      unfold clock_Gone.f
      by_cases g1 : a0 ≥ a3
      · rw [if_pos g1, wrapu]; congr 1; rw [decide_eq_decide]; omega
      · rw [if_neg g1]; congr 1; rw [decide_eq_false]; omega
    have g' : clock_Gone.f (a0 + a1) a3 a4 = some (decide (a3 ≤ a0 + a1 ∧ a4 ≤ a0 + a1 - a3)) := by
      unfold clock_Gone.f
      by_cases g1 : a0 + a1 ≥ a3
      · rw [if_pos g1, wrapu]; congr 1; rw [decide_eq_decide]; omega
      · rw [if_neg g1]; congr 1; rw [decide_eq_false]; omega
    rw [g, Option.bind_some]
    by_cases g1 : a3 ≤ a0 ∧ a4 ≤ a0 - a3
    · rw [decide_eq_true g1, if_pos rfl, g', Option.bind_some, decide_eq_true (by omega), if_pos rfl, e3, Option.bind_some, if_pos (h3 (by omega)), runs_true, Option.bind_some]
    · rw [decide_eq_false g1, if_neg (by simp), runs_true, Option.bind_some]
  · have e1 : clock_Tick.f a0 a1 = some (0, false) := by
      unfold clock_Tick.f
      by_cases h1 : a0 > 1099511627776
      · rw [if_pos h1]
      · rw [if_neg h1, wrapu, if_pos (by omega)]
    rw [e1, Option.bind_some]
    dsimp only
    rw [if_neg (by simp), if_pos rfl, runs_true, Option.bind_some]

end Go.Proofs.Ytfohfdbclipgfaa.Pure
