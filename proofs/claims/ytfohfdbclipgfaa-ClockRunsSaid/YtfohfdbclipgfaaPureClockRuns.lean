/- ClockRuns: chapter 11's runs: the closed sentence is true. No conditions. -/
import Derived.Test.YtfohfdbclipgfaaPClockRunsx1
namespace Go.Proofs.Ytfohfdbclipgfaa.Pure
open Go.RowKit Go.Proofs.Ytfohfdbclipgfaa.PClockRuns Go.Proofs.YtfohfdbclipgfaaW.PrintWords Go.Proofs.YtfohfdbclipgfaaW.PrintLast

theorem u64_of {a : Int} (h : (Lit.int .u64 a).wf = true) : 0 ≤ a ∧ a < 18446744073709551616 := by
  have h' : (decide (IntKind.u64.min ≤ a) && decide (a ≤ IntKind.u64.max)) = true := h
  rw [Bool.and_eq_true] at h'
  have h3 := of_decide_eq_true h'.1
  have h4 := of_decide_eq_true h'.2
  have h1 : IntKind.u64.min = 0 := rfl
  have h2 : IntKind.u64.max = 18446744073709551615 := rfl
  omega

theorem wrapu (a : Int) : IntKind.u64.wrap a = a % 18446744073709551616 := by
  have h1 : IntKind.u64.signed = false := rfl
  have h2 : IntKind.u64.bits = 64 := rfl
  simp [IntKind.wrap, h1, h2]

theorem runs_true : sordinelaw11_ClockRuns.f = some true := by
  simp [sordinelaw11_ClockRuns.f, clock_State.f, clock_Gone.f, wrapu]

theorem ClockRuns : sordinelaw11_ClockRuns.Pure := runs_true

end Go.Proofs.Ytfohfdbclipgfaa.Pure
