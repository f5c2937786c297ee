/-
  No cell of these rows narrows 'for every input' (looked for: loops, veiled, ifaces, maps, wideKeys, modest, calm, conditions, laid).
  DERIVED. THE GIVEN ROWS OF THIS SEAT. 5 by the template 'for every input the law returns true; each argument reads behind the call as it read before'; 0 by the template 'total and deterministic' (their statements: YtlhllbnoifppeaaTotals.lean).
  GIVEN WITH THE SEED: the statements are not yours to turn. If you find one false, say at which input.
  Laid BY PROGRAM, IN A SANDBOX (cutbox-rows.mjs): the forced cells as the released guide's own fill.sh prints them over the translation fa60e476b69ef35d… (all of the seat's roots in one cut). By AI agents, Wed Nov 11 2026. No macro, syntax, notation, axiom, sorry.
-/
import Derived.Test.YtlhllbnoifppeaaChecked
import GoSem.Claim
import GoSem.ClaimJoined
import GoSem.ClaimMapViews
import Derived.JoinedTies
import Derived.KernelRfl
namespace Go.Proofs.Ytlhllbnoifppeaa
/- THE CELL 'sum', in the pinned program and in every row, IS THE sha256 OF THE DUMP (.gsa) THAT YtlhllbnoifppeaaProg.lean LOADS. Nothing in Lean hashes anything: it is a label: what it is worth is what the hold of that sum in a sandbox is worth. -/
noncomputable def Try.pinned : Pinned := { name := "ytlhllbnoifppeaa", sum := "fa60e476b69ef35d357f15d678c7f6b96bdff90f25193a12d98e33f81521be07", checked := Try.checked }
namespace Rows
def none {H : Type} : Left H := { results := [], args := [] }

/-- 'sordinelaw30.DockRuns': WHATEVER THE INPUT: true; the input reads as it did. -/
def dockRunsSpec : ChangeSpec := { name := "dockRuns", fn := fun _ => fun
  | [] => { results := [.lit (.bool true)], args := [] }
  | _ => none }
def dockRunsRow : OpenClaim := { program := "ytlhllbnoifppeaa", sum := "fa60e476b69ef35d357f15d678c7f6b96bdff90f25193a12d98e33f81521be07", func := "sordine/sordinelaw30.DockRuns", spec := "dockRuns", apart := false }
def DockRunsSaid : Prop := dockRunsRow.holds Try.pinned (OpenSpec.ofChange dockRunsSpec)

/-- ITS FALSE NEIGHBOUR: 'it returns false'. Refute it at one input. -/
def dockRunsWrong : ChangeSpec := { name := "dockRuns", fn := fun _ => fun
  | [] => { results := [.lit (.bool false)], args := [] }
  | _ => none }
def DockRunsWrongFalsely : Prop := dockRunsRow.holds Try.pinned (OpenSpec.ofChange dockRunsWrong)

/-- 'sordinelaw30.DockPlays': WHATEVER THE INPUT: true; the input reads as it did. -/
def dockPlaysSpec : ChangeSpec := { name := "dockPlays", fn := fun _ => fun
  | [d1, d2, d3, d4] => { results := [.lit (.bool true)], args := [d1, d2, d3, d4] }
  | _ => none }
def dockPlaysRow : OpenClaim := { program := "ytlhllbnoifppeaa", sum := "fa60e476b69ef35d357f15d678c7f6b96bdff90f25193a12d98e33f81521be07", func := "sordine/sordinelaw30.DockPlays", spec := "dockPlays", apart := false }
def DockPlaysSaid : Prop := dockPlaysRow.holds Try.pinned (OpenSpec.ofChange dockPlaysSpec)

/-- ITS FALSE NEIGHBOUR: 'it returns false'. Refute it at one input. -/
def dockPlaysWrong : ChangeSpec := { name := "dockPlays", fn := fun _ => fun
  | [d1, d2, d3, d4] => { results := [.lit (.bool false)], args := [d1, d2, d3, d4] }
  | _ => none }
def DockPlaysWrongFalsely : Prop := dockPlaysRow.holds Try.pinned (OpenSpec.ofChange dockPlaysWrong)

/-- 'sordinelaw30.DockOrder': WHATEVER THE INPUT: true; the input reads as it did. -/
def dockOrderSpec : ChangeSpec := { name := "dockOrder", fn := fun _ => fun
  | [d1, d2, d3] => { results := [.lit (.bool true)], args := [d1, d2, d3] }
  | _ => none }
def dockOrderRow : OpenClaim := { program := "ytlhllbnoifppeaa", sum := "fa60e476b69ef35d357f15d678c7f6b96bdff90f25193a12d98e33f81521be07", func := "sordine/sordinelaw30.DockOrder", spec := "dockOrder", apart := false }
def DockOrderSaid : Prop := dockOrderRow.holds Try.pinned (OpenSpec.ofChange dockOrderSpec)

/-- ITS FALSE NEIGHBOUR: 'it returns false'. Refute it at one input. -/
def dockOrderWrong : ChangeSpec := { name := "dockOrder", fn := fun _ => fun
  | [d1, d2, d3] => { results := [.lit (.bool false)], args := [d1, d2, d3] }
  | _ => none }
def DockOrderWrongFalsely : Prop := dockOrderRow.holds Try.pinned (OpenSpec.ofChange dockOrderWrong)

/-- 'sordinelaw30.DockFair': WHATEVER THE INPUT: true; the input reads as it did. -/
def dockFairSpec : ChangeSpec := { name := "dockFair", fn := fun _ => fun
  | [d1, d2] => { results := [.lit (.bool true)], args := [d1, d2] }
  | _ => none }
def dockFairRow : OpenClaim := { program := "ytlhllbnoifppeaa", sum := "fa60e476b69ef35d357f15d678c7f6b96bdff90f25193a12d98e33f81521be07", func := "sordine/sordinelaw30.DockFair", spec := "dockFair", apart := false }
def DockFairSaid : Prop := dockFairRow.holds Try.pinned (OpenSpec.ofChange dockFairSpec)

/-- ITS FALSE NEIGHBOUR: 'it returns false'. Refute it at one input. -/
def dockFairWrong : ChangeSpec := { name := "dockFair", fn := fun _ => fun
  | [d1, d2] => { results := [.lit (.bool false)], args := [d1, d2] }
  | _ => none }
def DockFairWrongFalsely : Prop := dockFairRow.holds Try.pinned (OpenSpec.ofChange dockFairWrong)

/-- 'sordinelaw30.DockKeeps': WHATEVER THE INPUT: true; the input reads as it did. -/
def dockKeepsSpec : ChangeSpec := { name := "dockKeeps", fn := fun _ => fun
  | [d1, d2] => { results := [.lit (.bool true)], args := [d1, d2] }
  | _ => none }
def dockKeepsRow : OpenClaim := { program := "ytlhllbnoifppeaa", sum := "fa60e476b69ef35d357f15d678c7f6b96bdff90f25193a12d98e33f81521be07", func := "sordine/sordinelaw30.DockKeeps", spec := "dockKeeps", apart := false }
def DockKeepsSaid : Prop := dockKeepsRow.holds Try.pinned (OpenSpec.ofChange dockKeepsSpec)

/-- ITS FALSE NEIGHBOUR: 'it returns false'. Refute it at one input. -/
def dockKeepsWrong : ChangeSpec := { name := "dockKeeps", fn := fun _ => fun
  | [d1, d2] => { results := [.lit (.bool false)], args := [d1, d2] }
  | _ => none }
def DockKeepsWrongFalsely : Prop := dockKeepsRow.holds Try.pinned (OpenSpec.ofChange dockKeepsWrong)

/- THE SECOND FORM. 'bulk': how many values and letters a reading holds, each counted each time it is reached (what is shared counts as often as it is met; a slice's spare places count too). A statement '..UptoSaid' is the law's where the arguments, and the package variables that the reading takes, are together of bulk at most 1048576: NARROWER than '..Said'. Prove '..Said' where nothing that the law and all that it calls make is longer than what came in: it says more and counts as full. Else prove '..UptoSaid'. A law counts once. -/
mutual
def uptoBulk {H : Type} : DataW H → Nat
  | .lit (.string bytes) => bytes.length + 1
  | .lit _ => 1
  | .nil => 1
  | .ptr d => uptoBulk d + 1
  | .slice elems spare => uptoBulkAll elems + uptoBulkAll spare + 1
  | .agg parts => uptoBulkAll parts + 1
  | .iface _ d => uptoBulk d + 1
  | .map entries => uptoBulkEntries entries + 1
  | .held _ => 1
def uptoBulkAll {H : Type} : List (DataW H) → Nat
  | [] => 0
  | d :: r => uptoBulk d + uptoBulkAll r
def uptoBulkEntries {H : Type} : List (Lit × DataW H) → Nat
  | [] => 0
  | x :: r => uptoBulkEntry x + uptoBulkEntries r
def uptoBulkEntry {H : Type} : Lit × DataW H → Nat
  | (.string bytes, d) => bytes.length + uptoBulk d + 1
  | (_, d) => uptoBulk d + 1
 end
def uptoSmall : (H : Type) → List (DataW H) → Bool := fun _ ds => decide (uptoBulkAll ds ≤ 1048576)
def OpenSpec.upto (s : _root_.Go.ChangeSpec) : _root_.Go.OpenSpec := { _root_.Go.OpenSpec.ofChange s with cond := some uptoSmall }

/-- 'sordinelaw30.DockRuns', WHERE WHAT IT READS IS OF BULK AT MOST 1048576: true; the input reads as it did. -/
def dockRunsUptoRow : OpenClaim := { program := "ytlhllbnoifppeaa", sum := "fa60e476b69ef35d357f15d678c7f6b96bdff90f25193a12d98e33f81521be07", func := "sordine/sordinelaw30.DockRuns", spec := "dockRuns", apart := false, narrowed := true }
def DockRunsUptoSaid : Prop := dockRunsUptoRow.holds Try.pinned (OpenSpec.upto dockRunsSpec)

/-- 'sordinelaw30.DockPlays', WHERE WHAT IT READS IS OF BULK AT MOST 1048576: true; the input reads as it did. -/
def dockPlaysUptoRow : OpenClaim := { program := "ytlhllbnoifppeaa", sum := "fa60e476b69ef35d357f15d678c7f6b96bdff90f25193a12d98e33f81521be07", func := "sordine/sordinelaw30.DockPlays", spec := "dockPlays", apart := false, narrowed := true }
def DockPlaysUptoSaid : Prop := dockPlaysUptoRow.holds Try.pinned (OpenSpec.upto dockPlaysSpec)

/-- 'sordinelaw30.DockOrder', WHERE WHAT IT READS IS OF BULK AT MOST 1048576: true; the input reads as it did. -/
def dockOrderUptoRow : OpenClaim := { program := "ytlhllbnoifppeaa", sum := "fa60e476b69ef35d357f15d678c7f6b96bdff90f25193a12d98e33f81521be07", func := "sordine/sordinelaw30.DockOrder", spec := "dockOrder", apart := false, narrowed := true }
def DockOrderUptoSaid : Prop := dockOrderUptoRow.holds Try.pinned (OpenSpec.upto dockOrderSpec)

/-- 'sordinelaw30.DockFair', WHERE WHAT IT READS IS OF BULK AT MOST 1048576: true; the input reads as it did. -/
def dockFairUptoRow : OpenClaim := { program := "ytlhllbnoifppeaa", sum := "fa60e476b69ef35d357f15d678c7f6b96bdff90f25193a12d98e33f81521be07", func := "sordine/sordinelaw30.DockFair", spec := "dockFair", apart := false, narrowed := true }
def DockFairUptoSaid : Prop := dockFairUptoRow.holds Try.pinned (OpenSpec.upto dockFairSpec)

/-- 'sordinelaw30.DockKeeps', WHERE WHAT IT READS IS OF BULK AT MOST 1048576: true; the input reads as it did. -/
def dockKeepsUptoRow : OpenClaim := { program := "ytlhllbnoifppeaa", sum := "fa60e476b69ef35d357f15d678c7f6b96bdff90f25193a12d98e33f81521be07", func := "sordine/sordinelaw30.DockKeeps", spec := "dockKeeps", apart := false, narrowed := true }
def DockKeepsUptoSaid : Prop := dockKeepsUptoRow.holds Try.pinned (OpenSpec.upto dockKeepsSpec)

end Rows
end Go.Proofs.Ytlhllbnoifppeaa
