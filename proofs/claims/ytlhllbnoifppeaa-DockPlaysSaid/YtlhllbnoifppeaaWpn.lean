/- A walk of a frame that is no early one: what Code.wp says of every frame, said of these alone; so a select can be walked, whose law asks that. With it: the laws for a sequence, a condition, a region whose first operation is a select with a default in one goroutine; and the way to 'Calls'. -/
import Derived.Test.YtlhllbnoifppeaaChecked
import Derived.Conc.LoneSelect
import Derived.OwnWalk
namespace Go.Proofs.Ytlhllbnoifppeaa
namespace Dk
open Go.RowKit Go.Conc

def WpN (P : Program) (c : Code) (Q : Exit → Act → World → Prop) (a : Act) (w : World) : Prop :=
  ∀ (b : Frame) (k : List Item) (cs : List Frame), b.kind ≠ .early → ∃ e a' w', Q e a' w' ∧ Arrives P (lone (b.at a (.code c :: k)) cs w) b k cs e a' w'

section
variable {P : Program} {Q : Exit → Act → World → Prop} {a : Act} {w : World}
theorem wpN_of_wp {c : Code} (h : c.wp P Q a w) : WpN P c Q a w := fun b k cs _ => h b k cs
theorem wpN_seq {x y : Code} (h : WpN P x (Exit.then (WpN P y Q) Q) a w) : WpN P (Code.seq x y) Q a w := by
  intro b k cs hb
  obtain ⟨e, a₁, w₁, hq, harr⟩ := h b (.code y :: k) cs hb
  cases e with
  | normal =>
    obtain ⟨e₂, a₂, w₂, hq₂, harr₂⟩ := hq b k cs hb
    exact ⟨e₂, a₂, w₂, hq₂, .of_steps (.head step_seq harr) harr₂⟩
  | exit id => exact ⟨_, a₁, w₁, hq, .of_steps (.one step_seq) (.pass (x := .code y) rfl (fun _ _ => .inl (by simp)) harr)⟩
  | goto l => exact ⟨_, a₁, w₁, hq, .of_steps (.one step_seq) (.pass (x := .code y) rfl (fun _ _ => .inl (by simp)) harr)⟩
  | ret => exact ⟨_, a₁, w₁, hq, .of_steps (.one step_seq) (.pass (x := .code y) rfl (fun _ _ => .inl (by simp)) harr)⟩
  | panic ch => exact ⟨_, a₁, w₁, hq, .of_steps (.one step_seq) (.pass (x := .code y) rfl (fun _ _ => .inl (by simp)) harr)⟩
  | outgrown => exact ⟨_, a₁, w₁, hq, .of_steps (.one step_seq) (.pass (x := .code y) rfl (fun _ _ => .inl (by simp)) harr)⟩
theorem wpN_seq_k {x y : Code} (h : ∀ K : Act → World → Prop, (∀ a w, WpN P y Q a w → K a w) → WpN P x (Exit.then K Q) a w) : WpN P (Code.seq x y) Q a w := wpN_seq (h _ fun _ _ h => h)
theorem wpN_cond {c : Operand} {x y : Code} {t : Bool} (hc : a.eval c = .bool t) (h : WpN P (if t then x else y) Q a w) : WpN P (Code.cond c x y) Q a w :=
  fun b k cs hb => let ⟨e, a', w', q, r⟩ := h b k cs hb; ⟨e, a', w', q, .of_steps (.one (step_cond hc)) r⟩
theorem wpN_mono {c : Code} {Q' : Exit → Act → World → Prop} (h : WpN P c Q a w) (hq : ∀ e a w, Q e a w → Q' e a w) : WpN P c Q' a w :=
  fun b k cs hb => let ⟨e, a', w', q, r⟩ := h b k cs hb; ⟨e, a', w', hq _ _ _ q, r⟩
theorem calls_of_wpN {f : FuncId} {fn : Func} {c : Code} {args : Array Value} {R : Ending → World → Prop}
    (hf : P.funcs[f]? = some fn) (hb : fn.body = some c)
    (h : WpN P c (bodyPost P fn R) { tmps := args ++ Array.replicate (fn.ntmps - args.size) undef, defers := [] } w) : Calls P f args w R := by
  intro cs
  let b : Frame := { (default : Frame) with fn := f, kind := .normal }
  have henter : Frame.enter P f args .normal = b.at { tmps := args ++ Array.replicate (fn.ntmps - args.size) undef, defers := [] } [.code c] := by
    simp [Frame.enter, Frame.at, hf, hb, b]
  obtain ⟨e, a', w', hq, harr⟩ := h b [] cs (by simp [b])
  rw [← henter] at harr
  cases e with
  | normal =>
    obtain ⟨hd, v, hr, hR⟩ := hq
    exact ⟨.returned v, w', _, hR, Steps.trans harr (.one step_end), rfl, rfl, hd, rfl, fn, hf, hr⟩
  | ret =>
    obtain ⟨hd, v, hr, hR⟩ := hq
    obtain ⟨todo, hs⟩ := harr
    exact ⟨.returned v, w', _, hR, hs, rfl, rfl, hd, rfl, fn, hf, hr⟩
  | panic chain =>
    obtain ⟨hd, hR⟩ := hq
    obtain ⟨todo, hs⟩ := harr
    exact ⟨.panicked chain, w', _, hR, hs, rfl, rfl, hd, fn, hf⟩
  | exit id => exact hq.elim
  | goto l => exact hq.elim
  | outgrown => exact ⟨.outgrown, w', b, hq, harr.resolve_left (by simp [b]), rfl, trivial⟩

/-- A region whose first operation the machine takes by a step of its own, which hands over v and leaves the world w'. -/
theorem wpN_region_step {id : Nat} {o : Oper} {l : List Oper} {v : Value} {w' : World}
    (hs : ∀ (b : Frame) (k : List Item) (cs : List Frame), b.kind ≠ .early →
      step P (lone (b.at a (.inRegion (o :: l).toArray (0 :: List.range' 1 l.length) :: k)) cs w) = .next (lone ((b.at a (.inRegion (o :: l).toArray (0 :: List.range' 1 l.length) :: k)).finish v) cs w'))
    (h : wpList P (o :: l).toArray Q l (a.put o.dst v) w') : WpN P (.region id (o :: l).toArray false) Q a w := by
  intro b k cs hb
  rw [← wpOps_eq_wpList l 1 (fun j => by simp [Nat.add_comm 1 j])] at h
  obtain ⟨e, a', w₂, hq, harr⟩ := wp_ops _ _ _ h b k cs
  refine ⟨e, a', w₂, hq, .of_steps (.one step_region) (.of_steps ?_ harr)⟩
  have hr : List.range (o :: l).toArray.size = 0 :: List.range' 1 l.length := by
    rw [List.range_eq_range']
    simp [List.range'_succ]
  rw [hr]
  have hs' := hs b k cs hb
  rw [Frame.finish_at] at hs'
  exact .one (by simpa using hs')

variable {c cap s r : Nat} {buf : Array Value} {z z' v : Value} {tm closed : Bool}
/-- A receive case that is ready. -/
theorem wpN_recv_buf {id : Nat} {o : Oper} {l : List Oper} (hg : o.guard = none) (ho : (execOp a.eval o).run P w = .ok (.comm #[rcase c z] false .select) w) (hc : w.heap[c]? = some (.chan cap buf closed s r tm)) (hsome : 0 < buf.size)
    (h : wpList P (o :: l).toArray Q l (a.put o.dst (.tuple #[goInt 0, .bool true, buf.getD 0 undef])) (w.setChan c cap (buf.extract 1 buf.size) closed s (r + 1) tm)) : WpN P (.region id (o :: l).toArray false) Q a w :=
  wpN_region_step (fun b k cs hb => step_lone_select_recv_buf (stepG_comm (o := o) (by simp) (by simp [Region.wanted, hg]) hb ho) hc hsome) h
/-- A receive case that is not: the default. -/
theorem wpN_recv_none {id : Nat} {o : Oper} {l : List Oper} (hg : o.guard = none) (ho : (execOp a.eval o).run P w = .ok (.comm #[rcase c z] false .select) w) (hc : w.heap[c]? = some (.chan cap #[] false s r tm))
    (h : wpList P (o :: l).toArray Q l (a.put o.dst (.tuple #[goInt (-1), .bool false, z])) w) : WpN P (.region id (o :: l).toArray false) Q a w :=
  wpN_region_step (fun b k cs hb => step_lone_select_default (stepG_comm (o := o) (by simp) (by simp [Region.wanted, hg]) hb ho) hc) h
/-- A send case with room. -/
theorem wpN_send_room {id : Nat} {o : Oper} {l : List Oper} (hg : o.guard = none) (ho : (execOp a.eval o).run P w = .ok (.comm #[scase c v z'] false .select) w) (hc : w.heap[c]? = some (.chan cap buf false s r tm)) (hroom : buf.size < cap)
    (h : wpList P (o :: l).toArray Q l (a.put o.dst (.tuple #[goInt 0, .bool false])) (w.setChan c cap (buf.push v) false (s + 1) r tm)) : WpN P (.region id (o :: l).toArray false) Q a w :=
  wpN_region_step (fun b k cs hb => step_lone_select_send_room (stepG_comm (o := o) (by simp) (by simp [Region.wanted, hg]) hb ho) hc hroom) h
/-- A send case without: the default. -/
theorem wpN_send_full {id : Nat} {o : Oper} {l : List Oper} (hg : o.guard = none) (ho : (execOp a.eval o).run P w = .ok (.comm #[scase c v z'] false .select) w) (hc : w.heap[c]? = some (.chan cap buf false s r tm)) (hfull : cap ≤ buf.size)
    (h : wpList P (o :: l).toArray Q l (a.put o.dst (.tuple #[goInt (-1), .bool false])) w) : WpN P (.region id (o :: l).toArray false) Q a w :=
  wpN_region_step (fun b k cs hb => step_lone_select_send_full (stepG_comm (o := o) (by simp) (by simp [Region.wanted, hg]) hb ho) hc hfull) h
end
end Dk
end Go.Proofs.Ytlhllbnoifppeaa
