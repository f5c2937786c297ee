/- ClockSpans: whatever the times, what may be made is not expired and becomes active; one that ends at once may not be made. No conditions beyond the kinds of the numbers. -/
import Derived.Test.YtfohfdbclipgfaaPClockSpansx1
namespace Go.Proofs.Ytfohfdbclipgfaa.Pure
open Go.RowKit Go.Proofs.Ytfohfdbclipgfaa.PClockSpans Go.Proofs.YtfohfdbclipgfaaW.PrintWords Go.Proofs.YtfohfdbclipgfaaW.PrintLast

theorem u64_of {a : Int} (h : (Lit.int .u64 a).wf = true) : 0 ≤ a ∧ a < 18446744073709551616 := by
  have h' : (decide (IntKind.u64.min ≤ a) && decide (a ≤ IntKind.u64.max)) = true := h
  rw [Bool.and_eq_true] at h'
  have h3 := of_decide_eq_true h'.1
  have h4 := of_decide_eq_true h'.2
  have h1 : IntKind.u64.min = 0 := rfl
  have h2 : IntKind.u64.max = 18446744073709551615 := rfl
  omega

theorem wrapu (a : Int) : IntKind.u64.wrap a = a % 18446744073709551616 := by
  have h1 : IntKind.u64.signed = false := rfl
  have h2 : IntKind.u64.bits = 64 := rfl
  simp [IntKind.wrap, h1, h2]

theorem runs_true : sordinelaw11_ClockRuns.f = some true := by
  simp [sordinelaw11_ClockRuns.f, clock_State.f, clock_Gone.f, wrapu]

theorem ClockSpans : sordinelaw11_ClockSpans.Pure := by
  intro a0 a1 a2 w0 w1 w2
  have := u64_of w0
  have := u64_of w1
  have := u64_of w2
  refine ⟨1, ?_⟩
  have s1 : clock_Span.f a2 a1 a2 = some false := by unfold clock_Span.f; repeat' split
                                                     all_goals first | rfl | omega
  have s2 : clock_Span.f a0 a2 a2 = some false := by unfold clock_Span.f; rw [if_neg (by omega)]
  have hj : sordinelaw11_ClockSpans.j0 1 a0 a1 a2 false = some true := by
    simp [sordinelaw11_ClockSpans.j0, s1, s2, runs_true]
  unfold sordinelaw11_ClockSpans.f
  by_cases h : a1 < a2 ∧ a0 < a2 ∧ a2 ≤ 1099511627776
  · obtain ⟨h1, h2, h3⟩ := h
    have e1 : clock_Span.f a0 a1 a2 = some true := by unfold clock_Span.f; rw [if_pos h1, if_pos h2]; simp [h3]
    have e2 : ∃ r, clock_State.f a0 a1 a2 = some r ∧ r ≠ 3 := by
      unfold clock_State.f; rw [if_neg (by omega)]; split
      · exact ⟨1, rfl, by omega⟩
      · exact ⟨2, rfl, by omega⟩
    obtain ⟨r, e2, hr⟩ := e2
    have e3 : clock_State.f (mx a0 a1) a1 a2 = some 2 := by
      unfold clock_State.f mx
      by_cases hc : a0 < a1
      · rw [if_neg (by omega), if_neg (by omega)]
      · rw [if_neg (by omega), if_neg (by omega)]
    have e4 : clock_State.f a2 a1 a2 = some 3 := by unfold clock_State.f; rw [if_pos (by omega)]
    rw [e1, Option.bind_some, if_pos rfl, e2, Option.bind_some, if_neg hr, e3, Option.bind_some, if_pos rfl, e4, Option.bind_some]
    exact hj
  · have e1 : clock_Span.f a0 a1 a2 = some false := by
      unfold clock_Span.f
      by_cases h1 : a1 < a2
      · rw [if_pos h1]
        by_cases h2 : a0 < a2
        · rw [if_pos h2]; simp; omega
        · rw [if_neg h2]
      · rw [if_neg h1]
    rw [e1, Option.bind_some, if_neg (by simp)]
    exact hj

end Go.Proofs.Ytfohfdbclipgfaa.Pure
