/- ClockTwice: two ticks one behind the other are one of both together. No conditions beyond the kinds of the numbers. -/
import Derived.Test.YtfohfdbclipgfaaPClockTwicex1
namespace Go.Proofs.Ytfohfdbclipgfaa.Pure
open Go.RowKit Go.Proofs.Ytfohfdbclipgfaa.PClockTwice Go.Proofs.YtfohfdbclipgfaaW.PrintWords Go.Proofs.YtfohfdbclipgfaaW.PrintLast

theorem u64_of {a : Int} (h : (Lit.int .u64 a).wf = true) : 0 ≤ a ∧ a < 18446744073709551616 := by
  have h' : (decide (IntKind.u64.min ≤ a) && decide (a ≤ IntKind.u64.max)) = true := h
  rw [Bool.and_eq_true] at h'
  have h3 := of_decide_eq_true h'.1
  have h4 := of_decide_eq_true h'.2
  have h1 : IntKind.u64.min = 0 := rfl
  have h2 : IntKind.u64.max = 18446744073709551615 := rfl
  omega

theorem wrapu (a : Int) : IntKind.u64.wrap a = a % 18446744073709551616 := by
  have h1 : IntKind.u64.signed = false := rfl
  have h2 : IntKind.u64.bits = 64 := rfl
  simp [IntKind.wrap, h1, h2]

theorem runs_true : sordinelaw11_ClockRuns.f = some true := by
  simp [sordinelaw11_ClockRuns.f, clock_State.f, clock_Gone.f, wrapu]

theorem tick_is (a b : Int) (h0 : 0 ≤ a ∧ a < 18446744073709551616) (h1 : 0 ≤ b ∧ b < 18446744073709551616) :
    clock_Tick.f a b = some (if a + b ≤ 1099511627776 then (a + b, true) else (0, false)) := by
  unfold clock_Tick.f
  by_cases h : a + b ≤ 1099511627776
  · rw [if_neg (by omega), wrapu, wrapu, if_neg (by omega), if_pos h]
    congr 2
    omega
  · rw [if_neg h]
    by_cases h1 : a > 1099511627776
    · rw [if_pos h1]
    · rw [if_neg h1, wrapu, if_pos (by omega)]

theorem ClockTwice : sordinelaw11_ClockTwice.Pure := by
  intro a0 a1 a2 w0 w1 w2
  have b0 := u64_of w0
  have b1 := u64_of w1
  have b2 := u64_of w2
  refine ⟨1, ?_⟩
  unfold sordinelaw11_ClockTwice.f
  by_cases h1 : a1 > 1099511627776
  · rw [if_pos h1]; simp [sordinelaw11_ClockTwice.j0, runs_true]
  rw [if_neg h1]
  simp only [sordinelaw11_ClockTwice.j0]
  by_cases h2 : a2 > 1099511627776
  · rw [decide_eq_true h2]; simp [runs_true]
  rw [decide_eq_false h2, if_neg (by simp), tick_is a0 a1 b0 b1, Option.bind_some]
  have hw : IntKind.u64.wrap (a1 + a2) = a1 + a2 := by rw [wrapu]; omega
  rw [hw]
  by_cases h3 : a0 + a1 ≤ 1099511627776
  · rw [if_pos h3]; dsimp only
    rw [tick_is (a0 + a1) a2 (by omega) b2, Option.bind_some, tick_is a0 (a1 + a2) b0 (by omega), Option.bind_some, if_pos rfl]
    by_cases h4 : a0 + a1 + a2 ≤ 1099511627776
    · have h5 : a0 + (a1 + a2) ≤ 1099511627776 := by omega
      rw [if_pos h4, if_pos h5]; simp [runs_true, Int.add_assoc]
    · have h5 : ¬ a0 + (a1 + a2) ≤ 1099511627776 := by omega
      rw [if_neg h4, if_neg h5]; simp [runs_true]
  · rw [if_neg h3]; dsimp only
    rw [tick_is 0 a2 (by omega) b2, Option.bind_some, tick_is a0 (a1 + a2) b0 (by omega), Option.bind_some, if_neg (by simp)]
    rw [if_neg (show ¬ (a0 + (a1 + a2) ≤ 1099511627776) by omega)]
    simp [runs_true]

end Go.Proofs.Ytfohfdbclipgfaa.Pure
