/- The contract of (*Dock).from: the first that waits in a lane, or none. -/
import Derived.Test.YtlhllbnoifppeaaWpn
namespace Go.Proofs.Ytlhllbnoifppeaa
namespace Dk
open Go.RowKit Go.Conc
set_option maxHeartbeats 2000000
set_option maxRecDepth 100000

theorem from_none (w : World) (pd g i n cap c room s r : Nat) (nx lo : Value) (hp : w.heap[pd]? = some (.cells #[.slice (some ⟨g, 0, none⟩) n cap, nx, lo] 48 (0, 0)))
    (hg : w.cell? ⟨g, i, none⟩ = some (.chan (some c))) (hi : i < n) (hc : w.heap[c]? = some (.chan room #[] false s r false)) :
    Calls Try.prog 18 #[.pointer (some ⟨pd, 0, none⟩), .int .i64 i] w fun e w' => e = .returned (.tuple #[.slice none 0 0, .bool false]) ∧ w' = w := by
  have c0 := cell_of_row w pd 0 _ _ _ hp
  refine calls_of_wpN Try.func18 (c := Try.f18.body.getD .skip) rfl ?_
  simp only [Try.f18, Option.getD_some, List.size_toArray, List.length_cons, List.length_nil, Nat.reduceAdd, Nat.reduceSub, Array.replicate_succ,
     Array.replicate_zero, List.push_toArray, List.append_toArray, List.nil_append, List.cons_append]
  refine wpN_seq_k fun K1 h1 => wpN_of_wp ?_
  go_wp2_with fail
  refine wpN_seq_k fun K2 h2 => wpN_of_wp ?_
  go_wp2_with fail
  refine wpN_seq_k fun K3 h3 => ?_
  refine wpN_recv_none (c := c) (z := .slice none 0 0) rfl ?ex hc ?_
  case ex => simp [execOp, rcase, Act.eval]
  go_wp2_with fail
  refine wpN_of_wp ?_
  go_wp2_with fail
  go_ret2
  exact ⟨rfl, rfl⟩

theorem from_some (w : World) (pd g i n cap c room s r : Nat) (nx lo : Value) (buf : Array Value) (hp : w.heap[pd]? = some (.cells #[.slice (some ⟨g, 0, none⟩) n cap, nx, lo] 48 (0, 0)))
    (hg : w.cell? ⟨g, i, none⟩ = some (.chan (some c))) (hi : i < n) (hc : w.heap[c]? = some (.chan room buf false s r false)) (hb : 0 < buf.size) :
    Calls Try.prog 18 #[.pointer (some ⟨pd, 0, none⟩), .int .i64 i] w fun e w' => e = .returned (.tuple #[buf.getD 0 undef, .bool true]) ∧ w' = w.setChan c room (buf.extract 1 buf.size) false s (r + 1) false := by
  have c0 := cell_of_row w pd 0 _ _ _ hp
  refine calls_of_wpN Try.func18 (c := Try.f18.body.getD .skip) rfl ?_
  simp only [Try.f18, Option.getD_some, List.size_toArray, List.length_cons, List.length_nil, Nat.reduceAdd, Nat.reduceSub, Array.replicate_succ,
     Array.replicate_zero, List.push_toArray, List.append_toArray, List.nil_append, List.cons_append]
  refine wpN_seq_k fun K1 h1 => wpN_of_wp ?_
  go_wp2_with fail
  refine wpN_seq_k fun K2 h2 => wpN_of_wp ?_
  go_wp2_with fail
  refine wpN_seq_k fun K3 h3 => ?_
  refine wpN_recv_buf (c := c) (z := .slice none 0 0) rfl ?ex hc hb ?_
  case ex => simp [execOp, rcase, Act.eval]
  generalize hx : buf.getD 0 undef = x
  go_wp2_with fail
  refine wpN_of_wp ?_
  go_wp2_with fail
  go_ret2
  refine ⟨?_, rfl⟩
  have hx2 : buf.getD 0 undef = x := hx
  rw [hx2]; rfl
end Dk
end Go.Proofs.Ytlhllbnoifppeaa
