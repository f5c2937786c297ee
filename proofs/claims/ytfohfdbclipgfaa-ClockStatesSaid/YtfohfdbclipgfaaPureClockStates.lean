/- ClockStates: whatever the four times, the program's state, gone and span are the reference's. No conditions beyond the kinds of the numbers. -/
import Derived.Test.YtfohfdbclipgfaaPClockStatesx1
namespace Go.Proofs.Ytfohfdbclipgfaa.Pure
open Go.RowKit Go.Proofs.Ytfohfdbclipgfaa.PClockStates Go.Proofs.YtfohfdbclipgfaaW.PrintWords Go.Proofs.YtfohfdbclipgfaaW.PrintLast

theorem u64_of {a : Int} (h : (Lit.int .u64 a).wf = true) : 0 ≤ a ∧ a < 18446744073709551616 := by
  have h' : (decide (IntKind.u64.min ≤ a) && decide (a ≤ IntKind.u64.max)) = true := h
  rw [Bool.and_eq_true] at h'
  have h3 := of_decide_eq_true h'.1
  have h4 := of_decide_eq_true h'.2
  have h1 : IntKind.u64.min = 0 := rfl
  have h2 : IntKind.u64.max = 18446744073709551615 := rfl
  omega

theorem wrapu (a : Int) : IntKind.u64.wrap a = a % 18446744073709551616 := by
  have h1 : IntKind.u64.signed = false := rfl
  have h2 : IntKind.u64.bits = 64 := rfl
  simp [IntKind.wrap, h1, h2]

theorem runs_true : sordinelaw11_ClockRuns.f = some true := by
  simp [sordinelaw11_ClockRuns.f, clock_State.f, clock_Gone.f, wrapu]

theorem ClockStates : sordinelaw11_ClockStates.Pure := by
  intro a0 a1 a2 a3 w0 w1 w2 w3
  have e1 : ∃ r, clock_State.f a0 a1 a2 = some r := by unfold clock_State.f; repeat' split
                                                       all_goals exact ⟨_, rfl⟩
  have e2 : ∃ r, clock_Gone.f a0 a2 a3 = some r := by unfold clock_Gone.f; repeat' split
                                                      all_goals exact ⟨_, rfl⟩
  have e3 : ∃ r, clock_Span.f a0 a1 a2 = some r := by unfold clock_Span.f; repeat' split
                                                      all_goals exact ⟨_, rfl⟩
  obtain ⟨r1, e1⟩ := e1
  obtain ⟨r2, e2⟩ := e2
  obtain ⟨r3, e3⟩ := e3
  have f1 : sordineref9_State.f a0 a1 a2 = some r1 := e1
  have f2 : sordineref9_Gone.f a0 a2 a3 = some r2 := e2
  have f3 : sordineref9_Span.f a0 a1 a2 = some r3 := e3
  unfold sordinelaw11_ClockStates.f
  simp [e1, e2, e3, f1, f2, f3, runs_true]

end Go.Proofs.Ytfohfdbclipgfaa.Pure
