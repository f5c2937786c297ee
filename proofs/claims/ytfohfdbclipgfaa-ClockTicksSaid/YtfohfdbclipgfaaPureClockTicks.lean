/- ClockTicks: whatever the clock and the tick, the program's tick is the reference's. No conditions beyond the kinds of the numbers. -/
import Derived.Test.YtfohfdbclipgfaaPClockTicksx1
namespace Go.Proofs.Ytfohfdbclipgfaa.Pure
open Go.RowKit Go.Proofs.Ytfohfdbclipgfaa.PClockTicks Go.Proofs.YtfohfdbclipgfaaW.PrintWords Go.Proofs.YtfohfdbclipgfaaW.PrintLast

theorem u64_of {a : Int} (h : (Lit.int .u64 a).wf = true) : 0 ≤ a ∧ a < 18446744073709551616 := by
  have h' : (decide (IntKind.u64.min ≤ a) && decide (a ≤ IntKind.u64.max)) = true := h
  rw [Bool.and_eq_true] at h'
  have h3 := of_decide_eq_true h'.1
  have h4 := of_decide_eq_true h'.2
  have h1 : IntKind.u64.min = 0 := rfl
  have h2 : IntKind.u64.max = 18446744073709551615 := rfl
  omega

theorem wrapu (a : Int) : IntKind.u64.wrap a = a % 18446744073709551616 := by
  have h1 : IntKind.u64.signed = false := rfl
  have h2 : IntKind.u64.bits = 64 := rfl
  simp [IntKind.wrap, h1, h2]

theorem runs_true : sordinelaw11_ClockRuns.f = some true := by
  simp [sordinelaw11_ClockRuns.f, clock_State.f, clock_Gone.f, wrapu]

theorem ClockTicks : sordinelaw11_ClockTicks.Pure := by
  intro a0 a1 w0 w1
  have e1 : ∃ r, clock_Tick.f a0 a1 = some r := by unfold clock_Tick.f; repeat' split
                                                   all_goals exact ⟨_, rfl⟩
  obtain ⟨r1, e1⟩ := e1
  have f1 : sordineref9_Tick.f a0 a1 = some r1 := e1
  unfold sordinelaw11_ClockTicks.f
  simp [e1, f1, runs_true]

end Go.Proofs.Ytfohfdbclipgfaa.Pure
