/-
  No cell of these rows narrows 'for every input' (looked for: loops, veiled, ifaces, maps, wideKeys, modest, calm, conditions, laid).
  DERIVED. THE GIVEN ROWS OF THIS SEAT. 6 by the template 'for every input the law returns true; each argument reads behind the call as it read before'; 0 by the template 'total and deterministic' (their statements: YtfohfdbclipgfaaTotals.lean).
  GIVEN WITH THE SEED: the statements are not yours to turn. If you find one false, say at which input.
  Laid BY PROGRAM, IN A SANDBOX (cutbox-rows.mjs): the forced cells as the released guide's own fill.sh prints them over the translation 0ba844b82bd7b365… (all of the seat's roots in one cut). By AI agents, Wed Nov 11 2026. No macro, syntax, notation, axiom, sorry.
-/
import Derived.Test.YtfohfdbclipgfaaChecked
import GoSem.Claim
import GoSem.ClaimJoined
import GoSem.ClaimMapViews
import Derived.JoinedTies
import Derived.KernelRfl
namespace Go.Proofs.Ytfohfdbclipgfaa
/- THE CELL 'sum', in the pinned program and in every row, IS THE sha256 OF THE DUMP (.gsa) THAT YtfohfdbclipgfaaProg.lean LOADS. Nothing in Lean hashes anything: it is a label: what it is worth is what the hold of that sum in a sandbox is worth. -/
noncomputable def Try.pinned : Pinned := { name := "ytfohfdbclipgfaa", sum := "0ba844b82bd7b365f14a0e0378a2adefc456107b27307a09116cf0cf7a26e12e", checked := Try.checked }
namespace Rows
def none {H : Type} : Left H := { results := [], args := [] }

/-- 'sordinelaw11.ClockRuns': WHATEVER THE INPUT: true; the input reads as it did. -/
def clockRunsSpec : ChangeSpec := { name := "clockRuns", fn := fun _ => fun
  | [] => { results := [.lit (.bool true)], args := [] }
  | _ => none }
def clockRunsRow : OpenClaim := { program := "ytfohfdbclipgfaa", sum := "0ba844b82bd7b365f14a0e0378a2adefc456107b27307a09116cf0cf7a26e12e", func := "sordine/sordinelaw11.ClockRuns", spec := "clockRuns", apart := false }
def ClockRunsSaid : Prop := clockRunsRow.holds Try.pinned (OpenSpec.ofChange clockRunsSpec)

/-- ITS FALSE NEIGHBOUR: 'it returns false'. Refute it at one input. -/
def clockRunsWrong : ChangeSpec := { name := "clockRuns", fn := fun _ => fun
  | [] => { results := [.lit (.bool false)], args := [] }
  | _ => none }
def ClockRunsWrongFalsely : Prop := clockRunsRow.holds Try.pinned (OpenSpec.ofChange clockRunsWrong)

/-- 'sordinelaw11.ClockStates': WHATEVER THE INPUT: true; the input reads as it did. -/
def clockStatesSpec : ChangeSpec := { name := "clockStates", fn := fun _ => fun
  | [d1, d2, d3, d4] => { results := [.lit (.bool true)], args := [d1, d2, d3, d4] }
  | _ => none }
def clockStatesRow : OpenClaim := { program := "ytfohfdbclipgfaa", sum := "0ba844b82bd7b365f14a0e0378a2adefc456107b27307a09116cf0cf7a26e12e", func := "sordine/sordinelaw11.ClockStates", spec := "clockStates", apart := false }
def ClockStatesSaid : Prop := clockStatesRow.holds Try.pinned (OpenSpec.ofChange clockStatesSpec)

/-- ITS FALSE NEIGHBOUR: 'it returns false'. Refute it at one input. -/
def clockStatesWrong : ChangeSpec := { name := "clockStates", fn := fun _ => fun
  | [d1, d2, d3, d4] => { results := [.lit (.bool false)], args := [d1, d2, d3, d4] }
  | _ => none }
def ClockStatesWrongFalsely : Prop := clockStatesRow.holds Try.pinned (OpenSpec.ofChange clockStatesWrong)

/-- 'sordinelaw11.ClockSpans': WHATEVER THE INPUT: true; the input reads as it did. -/
def clockSpansSpec : ChangeSpec := { name := "clockSpans", fn := fun _ => fun
  | [d1, d2, d3] => { results := [.lit (.bool true)], args := [d1, d2, d3] }
  | _ => none }
def clockSpansRow : OpenClaim := { program := "ytfohfdbclipgfaa", sum := "0ba844b82bd7b365f14a0e0378a2adefc456107b27307a09116cf0cf7a26e12e", func := "sordine/sordinelaw11.ClockSpans", spec := "clockSpans", apart := false }
def ClockSpansSaid : Prop := clockSpansRow.holds Try.pinned (OpenSpec.ofChange clockSpansSpec)

/-- ITS FALSE NEIGHBOUR: 'it returns false'. Refute it at one input. -/
def clockSpansWrong : ChangeSpec := { name := "clockSpans", fn := fun _ => fun
  | [d1, d2, d3] => { results := [.lit (.bool false)], args := [d1, d2, d3] }
  | _ => none }
def ClockSpansWrongFalsely : Prop := clockSpansRow.holds Try.pinned (OpenSpec.ofChange clockSpansWrong)

/-- 'sordinelaw11.ClockTicks': WHATEVER THE INPUT: true; the input reads as it did. -/
def clockTicksSpec : ChangeSpec := { name := "clockTicks", fn := fun _ => fun
  | [d1, d2] => { results := [.lit (.bool true)], args := [d1, d2] }
  | _ => none }
def clockTicksRow : OpenClaim := { program := "ytfohfdbclipgfaa", sum := "0ba844b82bd7b365f14a0e0378a2adefc456107b27307a09116cf0cf7a26e12e", func := "sordine/sordinelaw11.ClockTicks", spec := "clockTicks", apart := false }
def ClockTicksSaid : Prop := clockTicksRow.holds Try.pinned (OpenSpec.ofChange clockTicksSpec)

/-- ITS FALSE NEIGHBOUR: 'it returns false'. Refute it at one input. -/
def clockTicksWrong : ChangeSpec := { name := "clockTicks", fn := fun _ => fun
  | [d1, d2] => { results := [.lit (.bool false)], args := [d1, d2] }
  | _ => none }
def ClockTicksWrongFalsely : Prop := clockTicksRow.holds Try.pinned (OpenSpec.ofChange clockTicksWrong)

/-- 'sordinelaw11.ClockGoes': WHATEVER THE INPUT: true; the input reads as it did. -/
def clockGoesSpec : ChangeSpec := { name := "clockGoes", fn := fun _ => fun
  | [d1, d2, d3, d4, d5] => { results := [.lit (.bool true)], args := [d1, d2, d3, d4, d5] }
  | _ => none }
def clockGoesRow : OpenClaim := { program := "ytfohfdbclipgfaa", sum := "0ba844b82bd7b365f14a0e0378a2adefc456107b27307a09116cf0cf7a26e12e", func := "sordine/sordinelaw11.ClockGoes", spec := "clockGoes", apart := false }
def ClockGoesSaid : Prop := clockGoesRow.holds Try.pinned (OpenSpec.ofChange clockGoesSpec)

/-- ITS FALSE NEIGHBOUR: 'it returns false'. Refute it at one input. -/
def clockGoesWrong : ChangeSpec := { name := "clockGoes", fn := fun _ => fun
  | [d1, d2, d3, d4, d5] => { results := [.lit (.bool false)], args := [d1, d2, d3, d4, d5] }
  | _ => none }
def ClockGoesWrongFalsely : Prop := clockGoesRow.holds Try.pinned (OpenSpec.ofChange clockGoesWrong)

/-- 'sordinelaw11.ClockTwice': WHATEVER THE INPUT: true; the input reads as it did. -/
def clockTwiceSpec : ChangeSpec := { name := "clockTwice", fn := fun _ => fun
  | [d1, d2, d3] => { results := [.lit (.bool true)], args := [d1, d2, d3] }
  | _ => none }
def clockTwiceRow : OpenClaim := { program := "ytfohfdbclipgfaa", sum := "0ba844b82bd7b365f14a0e0378a2adefc456107b27307a09116cf0cf7a26e12e", func := "sordine/sordinelaw11.ClockTwice", spec := "clockTwice", apart := false }
def ClockTwiceSaid : Prop := clockTwiceRow.holds Try.pinned (OpenSpec.ofChange clockTwiceSpec)

/-- ITS FALSE NEIGHBOUR: 'it returns false'. Refute it at one input. -/
def clockTwiceWrong : ChangeSpec := { name := "clockTwice", fn := fun _ => fun
  | [d1, d2, d3] => { results := [.lit (.bool false)], args := [d1, d2, d3] }
  | _ => none }
def ClockTwiceWrongFalsely : Prop := clockTwiceRow.holds Try.pinned (OpenSpec.ofChange clockTwiceWrong)

/- THE SECOND FORM. 'bulk': how many values and letters a reading holds, each counted each time it is reached (what is shared counts as often as it is met; a slice's spare places count too). A statement '..UptoSaid' is the law's where the arguments, and the package variables that the reading takes, are together of bulk at most 1048576: NARROWER than '..Said'. Prove '..Said' where nothing that the law and all that it calls make is longer than what came in: it says more and counts as full. Else prove '..UptoSaid'. A law counts once. -/
mutual
def uptoBulk {H : Type} : DataW H → Nat
  | .lit (.string bytes) => bytes.length + 1
  | .lit _ => 1
  | .nil => 1
  | .ptr d => uptoBulk d + 1
  | .slice elems spare => uptoBulkAll elems + uptoBulkAll spare + 1
  | .agg parts => uptoBulkAll parts + 1
  | .iface _ d => uptoBulk d + 1
  | .map entries => uptoBulkEntries entries + 1
  | .held _ => 1
def uptoBulkAll {H : Type} : List (DataW H) → Nat
  | [] => 0
  | d :: r => uptoBulk d + uptoBulkAll r
def uptoBulkEntries {H : Type} : List (Lit × DataW H) → Nat
  | [] => 0
  | x :: r => uptoBulkEntry x + uptoBulkEntries r
def uptoBulkEntry {H : Type} : Lit × DataW H → Nat
  | (.string bytes, d) => bytes.length + uptoBulk d + 1
  | (_, d) => uptoBulk d + 1
 end
def uptoSmall : (H : Type) → List (DataW H) → Bool := fun _ ds => decide (uptoBulkAll ds ≤ 1048576)
def OpenSpec.upto (s : _root_.Go.ChangeSpec) : _root_.Go.OpenSpec := { _root_.Go.OpenSpec.ofChange s with cond := some uptoSmall }

/-- 'sordinelaw11.ClockRuns', WHERE WHAT IT READS IS OF BULK AT MOST 1048576: true; the input reads as it did. -/
def clockRunsUptoRow : OpenClaim := { program := "ytfohfdbclipgfaa", sum := "0ba844b82bd7b365f14a0e0378a2adefc456107b27307a09116cf0cf7a26e12e", func := "sordine/sordinelaw11.ClockRuns", spec := "clockRuns", apart := false, narrowed := true }
def ClockRunsUptoSaid : Prop := clockRunsUptoRow.holds Try.pinned (OpenSpec.upto clockRunsSpec)

/-- 'sordinelaw11.ClockStates', WHERE WHAT IT READS IS OF BULK AT MOST 1048576: true; the input reads as it did. -/
def clockStatesUptoRow : OpenClaim := { program := "ytfohfdbclipgfaa", sum := "0ba844b82bd7b365f14a0e0378a2adefc456107b27307a09116cf0cf7a26e12e", func := "sordine/sordinelaw11.ClockStates", spec := "clockStates", apart := false, narrowed := true }
def ClockStatesUptoSaid : Prop := clockStatesUptoRow.holds Try.pinned (OpenSpec.upto clockStatesSpec)

/-- 'sordinelaw11.ClockSpans', WHERE WHAT IT READS IS OF BULK AT MOST 1048576: true; the input reads as it did. -/
def clockSpansUptoRow : OpenClaim := { program := "ytfohfdbclipgfaa", sum := "0ba844b82bd7b365f14a0e0378a2adefc456107b27307a09116cf0cf7a26e12e", func := "sordine/sordinelaw11.ClockSpans", spec := "clockSpans", apart := false, narrowed := true }
def ClockSpansUptoSaid : Prop := clockSpansUptoRow.holds Try.pinned (OpenSpec.upto clockSpansSpec)

/-- 'sordinelaw11.ClockTicks', WHERE WHAT IT READS IS OF BULK AT MOST 1048576: true; the input reads as it did. -/
def clockTicksUptoRow : OpenClaim := { program := "ytfohfdbclipgfaa", sum := "0ba844b82bd7b365f14a0e0378a2adefc456107b27307a09116cf0cf7a26e12e", func := "sordine/sordinelaw11.ClockTicks", spec := "clockTicks", apart := false, narrowed := true }
def ClockTicksUptoSaid : Prop := clockTicksUptoRow.holds Try.pinned (OpenSpec.upto clockTicksSpec)

/-- 'sordinelaw11.ClockGoes', WHERE WHAT IT READS IS OF BULK AT MOST 1048576: true; the input reads as it did. -/
def clockGoesUptoRow : OpenClaim := { program := "ytfohfdbclipgfaa", sum := "0ba844b82bd7b365f14a0e0378a2adefc456107b27307a09116cf0cf7a26e12e", func := "sordine/sordinelaw11.ClockGoes", spec := "clockGoes", apart := false, narrowed := true }
def ClockGoesUptoSaid : Prop := clockGoesUptoRow.holds Try.pinned (OpenSpec.upto clockGoesSpec)

/-- 'sordinelaw11.ClockTwice', WHERE WHAT IT READS IS OF BULK AT MOST 1048576: true; the input reads as it did. -/
def clockTwiceUptoRow : OpenClaim := { program := "ytfohfdbclipgfaa", sum := "0ba844b82bd7b365f14a0e0378a2adefc456107b27307a09116cf0cf7a26e12e", func := "sordine/sordinelaw11.ClockTwice", spec := "clockTwice", apart := false, narrowed := true }
def ClockTwiceUptoSaid : Prop := clockTwiceUptoRow.holds Try.pinned (OpenSpec.upto clockTwiceSpec)

end Rows
end Go.Proofs.Ytfohfdbclipgfaa
