/- The contract of dock.New: a dock of new memory, its lanes empty. -/
import Derived.Test.YtlhllbnoifppeaaTake
import Derived.Test.YtlhllbnoifppeaaWLast
namespace Go.Proofs.Ytlhllbnoifppeaa
namespace Dk
open Go.RowKit Go.Conc Go.Proofs.YtlhllbnoifppeaaW.PrintLast
set_option maxHeartbeats 2000000
set_option maxRecDepth 100000

theorem wpList_value {P : Program} {w w' : World} {ops : Array Oper} {rest : List Oper} {o : Oper} {a : Act} {Q : Exit → Act → World → Prop} {v : Value} (hgd : o.guard = none)
    (hr : (execOp a.eval o).run P w = .ok (.value v) w') (h : wpList P ops Q rest (a.put o.dst v) w') : wpList P ops Q (o :: rest) a w := by
  refine wpList_plain hgd fun K hK => ?_
  unfold Oper.wp
  rw [hr]
  exact hK _ _ h
theorem value_ {P : Program} {ops : Array Oper} {Q : Exit → Act → World → Prop} {oi : Oper} {N : Option Tmp} {a : Act} {w w' : World} {K : Act → World → Prop} {v : Value} (hw : Region.wanted oi (yielded ops a.tmps) = true) (hN : oi.dst = N)
    (hr : (execOp a.eval oi).run P w = .ok (.value v) w') (h : K (a.put N v) w') : if Region.wanted oi (yielded ops a.tmps) = true then Oper.wp P oi a w K Q else K (a.put N undef) w := by
  rw [if_pos hw]
  subst hN
  unfold Oper.wp
  rw [hr]
  exact h
theorem run_max1 (w : World) (ty : TypeId) (a : Int) : (Builtin.max_ #[3, 3] ty #[.int .i64 a, .int .i64 1]).run Try.prog w = .ok (.int .i64 (max a 1)) w := by
  by_cases h : a < 1
  · have e : max a 1 = 1 := by omega
    rw [e]
    go_simp
  · have e : max a 1 = a := by omega
    rw [e]
    go_simp
theorem run_min8 (w : World) (ty : TypeId) (a : Int) : (Builtin.min_ #[3, 3] ty #[.int .i64 a, .int .i64 8]).run Try.prog w = .ok (.int .i64 (min a 8)) w := by
  by_cases h : a < 8
  · have e : min a 8 = a := by omega
    rw [e]
    go_simp
    omega
  · have e : min a 8 = 8 := by omega
    rw [e]
    go_simp
    omega
theorem exec_max {P : Program} {w w' : World} {o : Oper} {a : Act} {v : Value} (s x : Operand) (ts : Array TypeId) (ho : o.op = .call { callee := .builtin .max, args := #[s, x], argTypes := ts })
    (hr : (Builtin.max_ ts o.type #[a.eval s, a.eval x]).run P w = .ok v w') : (execOp a.eval o).run P w = .ok (.value v) w' := by
  unfold execOp
  simp only [ho, resolve, invoke, builtin, Sem.run_bind, Sem.run_pure, Result.andThen_ok, List.map_toArray, List.map_cons, List.map_nil, hr]
theorem exec_min {P : Program} {w w' : World} {o : Oper} {a : Act} {v : Value} (s x : Operand) (ts : Array TypeId) (ho : o.op = .call { callee := .builtin .min, args := #[s, x], argTypes := ts })
    (hr : (Builtin.min_ ts o.type #[a.eval s, a.eval x]).run P w = .ok v w') : (execOp a.eval o).run P w = .ok (.value v) w' := by
  unfold execOp
  simp only [ho, resolve, invoke, builtin, Sem.run_bind, Sem.run_pure, Result.andThen_ok, List.map_toArray, List.map_cons, List.map_nil, hr]
def held (a : Int) : Nat := (min (max a 1) 8).toNat
theorem held_le (a : Int) : 1 ≤ held a ∧ held a ≤ 8 := by unfold held; omega
theorem held_int (a : Int) : min (max a 1) 8 = (held a : Int) := by unfold held; omega

theorem bytes25 : ∃ i, Try.prog.info? 25 = some i ∧ i.bytes = 24 := by
  have h : (Try.prog.info? 25).map (·.bytes) = some 24 := by kernel_rfl
  obtain ⟨i, hi, hb⟩ := Option.map_eq_some_iff.1 h
  exact ⟨i, hi, hb⟩
theorem mk (w : World) (room : Nat) (h : room ≤ 8) : (Instr.makeChan 49 (.int .i64 room)).run Try.prog w = .ok (.chan (some w.heap.size)) (w.alloc (.chan room #[] false 0 0 false)) := by
  obtain ⟨i, hi, hb⟩ := bytes25
  simpa using run_makeChan (P := Try.prog) (w := w) Try.underlying49 hi .i64 room (by omega) (by rw [hb]; omega)
theorem info49 : (Try.prog.info? 49).map (fun i => (i.zero, i.size, i.bytes)) = some (some (.chan none), 1, 8) := by kernel_rfl
theorem append_chan (w : World) (base : Nat) (v : Value) (n : Nat) (xs : List Value) (hown : w.ownsRow base 49 1 v n xs) (g c : Nat) (hg : w.heap[g]? = some (.cells #[.chan (some c)] 49 (0, 0))) (hb : n ≤ 100) (hbase : base ≤ w.heap.size) :
    ∃ v' w', (Builtin.append_ #[46, 46] 46 #[v, .slice (some ⟨g, 0, none⟩) 1 1]).run Try.prog w = .ok v' w' ∧ w'.ownsRow base 49 1 v' (n + 1) (xs ++ [.chan (some c)]) ∧ w.grownBy w' v.ownBlock := by
  obtain ⟨i0, hi, hz0, hz1, hz2⟩ := info_parts info49
  obtain ⟨v', w', h1, h2, h3, _⟩ := run_append_own (P := Try.prog) w base 46 46 49 i0 (.chan none) 1 8 Try.underlying46 hi hz0 hz1 hz2 rfl (by omega) v n xs hown ⟨g, 0, none⟩ 1 1 [.chan (some c)] rfl (fun j u hu => by
      rw [add_flat, cell_of_row w g _ _ _ _ hg]
      simpa using hu) (fun u hu => by simp at hu; subst hu; rfl) (by simp only [maxLen]; omega) (by omega) hbase
  exact ⟨v', w', h1, h2, h3⟩
theorem exec_append {P : Program} {w w' : World} {o : Oper} {a : Act} {v : Value} (s x : Operand) (ts : Array TypeId) (ho : o.op = .call { callee := .builtin .append, args := #[s, x], argTypes := ts })
    (hr : (Builtin.append_ ts o.type #[a.eval s, a.eval x]).run P w = .ok v w') : (execOp a.eval o).run P w = .ok (.value v) w' := by
  unfold execOp
  simp only [ho, resolve, invoke, builtin, Sem.run_bind, Sem.run_pure, Result.andThen_ok, List.map_toArray, List.map_cons, List.map_nil, hr]
theorem owns_some {w : World} {base e size : Nat} {v : Value} {n : Nat} {xs : List Value} (h : w.ownsRow base e size v n xs) (hn : 0 < n) : ∃ g cap, v = .slice (some ⟨g, 0, none⟩) n cap ∧ base ≤ g := by
  rcases h.2 with ⟨_, h0⟩ | ⟨g, cap, cur, h1, h2, _⟩
  · omega
  · exact ⟨g, cap, h1, h2⟩
/-- The dock under way: k lanes. -/
def NewRel (w : World) (room n : Nat) (v : Value) (wr : World) : Prop :=
  ∃ (k : Nat) (lv : Value) (ch : List Nat), k ≤ n ∧ v = .int .i64 k ∧ wr.heap[w.heap.size]? = some (.cells #[lv, .int .i64 1, .int .i64 0] 48 (0, 0)) ∧ wr.ownsRow (w.heap.size + 1) 49 1 lv k (ch.map fun c => Value.chan (some c)) ∧
    ch.Nodup ∧ (∀ c, c ∈ ch → w.heap.size < c ∧ wr.heap[c]? = some (.chan room #[] false 0 0 false)) ∧ Below w.heap.size w wr

theorem rep_of_new {w wr : World} {room n : Nat} {lv : Value} {ch : List Nat} (hn : 1 ≤ n) (hp : wr.heap[w.heap.size]? = some (.cells #[lv, .int .i64 1, .int .i64 0] 48 (0, 0)))
    (ho : wr.ownsRow (w.heap.size + 1) 49 1 lv n (ch.map fun c => Value.chan (some c))) (hnd : ch.Nodup) (hch : ∀ c, c ∈ ch → w.heap.size < c ∧ wr.heap[c]? = some (.chan room #[] false 0 0 false)) :
    ∃ g cap, ∀ X : Nat → Prop, (∀ k, X k → k < w.heap.size) → Rep X wr w.heap.size g cap ch room (List.replicate n []) 1 0 := by
  obtain ⟨hl, h⟩ := ho
  have hcl : ch.length = n := by simpa using hl
  rcases h with ⟨_, h0⟩ | ⟨g, cap, cur, rfl, hg, hcur, _, _, _, htake⟩
  · omega
  · refine ⟨g, cap, fun X hX => ⟨by rw [hcl]; exact hp, ⟨cur, hcur, fun i c hi => ?_⟩, by simp [hcl], hnd, fun h => by have := hX _ h; omega, fun h => by have := hX _ h; omega, fun i c l hi hl => ?_⟩⟩
    · have h1 : (ch.map fun c => Value.chan (some c))[i]? = some (Value.chan (some c)) := by rw [List.getElem?_map, hi]; rfl
      rw [← htake, List.getElem?_take] at h1
      split at h1
      · simpa using h1
      · cases h1
    · obtain ⟨h1, h2⟩ := hch c (List.mem_of_getElem? hi)
      have hle : l = [] := by
        rw [List.getElem?_replicate] at hl
        split at hl
        · exact (Option.some.inj hl).symm
        · cases hl
      subst hle
      exact ⟨#[], 0, 0, h2, rfl, fun h => by have := hX _ h; omega, fun j v bs hj => by simp at hj⟩
theorem new_any (w : World) (a b : Int) :
    Calls Try.prog 8 #[.int .i64 a, .int .i64 b] w fun e w' => ∃ g cap ch, e = .returned (.pointer (some ⟨w.heap.size, 0, none⟩)) ∧ Below w.heap.size w w' ∧
      ∀ X : Nat → Prop, (∀ k, X k → k < w.heap.size) → Rep X w' w.heap.size g cap ch (held b) (List.replicate (held a) []) 1 0 := by
  have ha := held_int a
  have hb := held_int b
  obtain ⟨hn1, hn2⟩ := held_le a
  obtain ⟨hr1, hr2⟩ := held_le b
  generalize held a = n at *
  generalize held b = room at *
  go_enter Try.func8, Try.ntmps8
  refine wp_seq_k fun K1 h1 => ?_
  have H1 := Lib.hid h1; clear h1
  go_wp2_with fail
  refine H1.out _ _ ?_
  clear H1
  refine wp_seq_k fun K2 h2 => ?_
  have H2 := Lib.hid h2; clear h2
  go_wp2_with fail
  refine H2.out _ _ ?_
  clear H2
  refine wp_seq_k fun K3 h3 => ?_
  refine wp_seq_k fun K4 h4 => ?_
  have H4 := Lib.hid h4; clear h4
  refine wp_region_lit ?_
  refine wpList_value (v := .int .i64 a) (w' := w.alloc (.cells #[.slice none 0 0, .int .i64 1, .int .i64 0] 48)) rfl ?x1 ?_
  case x1 => rfl
  refine wpList_value (v := .int .i64 (max a 1)) (w' := w.alloc (.cells #[.slice none 0 0, .int .i64 1, .int .i64 0] 48)) rfl ?x2 ?_
  case x2 => exact exec_max _ _ _ rfl (run_max1 _ _ _)
  refine wpList_value (v := .int .i64 (min (max a 1) 8)) (w' := w.alloc (.cells #[.slice none 0 0, .int .i64 1, .int .i64 0] 48)) rfl ?x3 ?_
  case x3 => exact exec_min _ _ _ rfl (run_min8 _ _ _)
  rw [ha]
  go_wp2_with fail
  refine H4.out _ _ ?_
  clear H4
  go_wp2_with fail
  go_loopw [11] (fun v wr => NewRel w room n v wr) (fun v _ => n - (intOf v).toNat)
  case atStart =>
    refine ⟨0, .slice none 0 0, [], by omega, rfl, heap_alloc_new _ _, World.ownsRow_nil _ _ _ _, List.nodup_nil, fun c hc => by simp at hc, (Below.refl _ _).alloc (Nat.le_refl _) _⟩
  case round =>
    obtain ⟨k, lv, ch, hk, rfl, hp, ho, hnd, hch, hbe⟩ := hrel
    by_cases hlt : k < n
    · go_wp2_with fail
      refine start_ (n := 14) (S := fun W' => W'.heap[w.heap.size]? = some (.cells #[lv, .int .i64 1, .int .i64 0] 48 (0, 0))) (ds := [13]) #[false, false, false, false, false, false, false, false, false, false, false, false, false, false] (by kernel_rfl) rfl rfl hp (fun hHeld => ?_)
      refine pure_ (i := 0) (N := some 13) (v := (.pointer (some ⟨w.heap.size, 0, none⟩))) #[true, false, false, false, false, false, false, false, false, false, false, false, false, false] rfl rfl (by kernel_rfl) (fun _ _ _ h => h) (Or.inl ⟨by rfl, fun w' => by go_simp⟩) rfl ?_
      simp only [Act.put, List.setIfInBounds_toArray, List.set_cons_zero, List.set_cons_succ]
      refine pure_ (i := 1) (N := some 14) (v := (.pointer (some ⟨w.heap.size, 0, none⟩))) #[true, true, false, false, false, false, false, false, false, false, false, false, false, false] rfl rfl (by kernel_rfl) (fun _ _ _ h => h) (Or.inl ⟨by rfl, fun w' => by go_simp⟩) rfl ?_
      simp only [Act.put, List.setIfInBounds_toArray, List.set_cons_zero, List.set_cons_succ]
      refine pure_ (i := 2) (N := some 15) (v := (.pointer (some ⟨w.heap.size, 0, none⟩))) #[true, true, true, false, false, false, false, false, false, false, false, false, false, false] rfl rfl (by kernel_rfl) (fun _ _ _ h => h) (Or.inl ⟨by rfl, fun w' => by go_simp⟩) rfl ?_
      simp only [Act.put, List.setIfInBounds_toArray, List.set_cons_zero, List.set_cons_succ]
      refine pure_ (i := 3) (N := some 16) (v := (.pointer (some ⟨w.heap.size, 0, none⟩))) #[true, true, true, true, false, false, false, false, false, false, false, false, false, false] rfl rfl (by kernel_rfl) (fun _ _ _ h => h) (Or.inl ⟨by rfl, fun w' => by go_simp⟩) rfl ?_
      simp only [Act.put, List.setIfInBounds_toArray, List.set_cons_zero, List.set_cons_succ]
      refine take_ (i := 4) (N := some 17) (v := lv) #[true, true, true, true, true, false, false, false, false, false, false, false, false, false] rfl rfl (by kernel_rfl) (fun _ _ _ h => h) (Or.inl ⟨by rfl, fun w' hw' => by have hc := cell_of_row w' w.heap.size 0 _ _ _ hw'; go_simp⟩) hHeld rfl ?_
      simp only [Act.put, List.setIfInBounds_toArray, List.set_cons_zero, List.set_cons_succ]
      refine pure_ (i := 5) (N := some 18) (v := .int .i64 b) #[true, true, true, true, true, true, false, false, false, false, false, false, false, false] rfl rfl (by kernel_rfl) (fun _ _ _ h => h) (Or.inl ⟨by rfl, fun w' => by go_simp⟩) rfl ?_
      simp only [Act.put, List.setIfInBounds_toArray, List.set_cons_zero, List.set_cons_succ]
      refine pure_ (i := 6) (N := some 19) (v := .int .i64 (max b 1)) #[true, true, true, true, true, true, true, false, false, false, false, false, false, false] rfl rfl (by kernel_rfl) (fun _ _ _ h => h) (Or.inl ⟨by rfl, fun w' => by exact exec_max _ _ _ rfl (run_max1 _ _ _)⟩) rfl ?_
      simp only [Act.put, List.setIfInBounds_toArray, List.set_cons_zero, List.set_cons_succ]
      refine pure_ (i := 7) (N := some 20) (v := .int .i64 (min (max b 1) 8)) #[true, true, true, true, true, true, true, true, false, false, false, false, false, false] rfl rfl (by kernel_rfl) (fun _ _ _ h => h) (Or.inl ⟨by rfl, fun w' => by exact exec_min _ _ _ rfl (run_min8 _ _ _)⟩) rfl ?_
      simp only [Act.put, List.setIfInBounds_toArray, List.set_cons_zero, List.set_cons_succ]
      rw [hb]
      refine one_ (i := 8) (N := some 21) #[true, true, true, true, true, true, true, true, true, false, false, false, false, false] rfl rfl (by kernel_rfl) (by simp) (fun K hK => ?_)
      refine value_ (v := .chan (some wr.heap.size)) (w' := (wr.drew.alloc (.chan room #[] false 0 0 false))) rfl rfl ?mkc ?_
      case mkc => have h := mk wr.drew room hr2; unfold execOp; simp [Act.eval, h]
      refine hK.out _ _ ?s8 (fun hHeld8 => ?_)
      case s8 => exact (Below.heap_alloc wr.drew _ _ (Array.getElem?_eq_some_iff.1 hp).1).trans hp
      clear hK K
      simp only [Act.put, List.setIfInBounds_toArray, List.set_cons_zero, List.set_cons_succ]
      refine one_ (i := 9) (N := some 22) #[true, true, true, true, true, true, true, true, true, true, false, false, false, false] rfl rfl (by kernel_rfl) (by simp) (fun K hK => ?_)
      refine value_ (v := .slice (some ⟨wr.heap.size + 1, 0, none⟩) 1 1) (w' := ((wr.drew.alloc (.chan room #[] false 0 0 false)).alloc (.cells #[.chan (some wr.heap.size)] 49))) rfl rfl ?bs ?_
      case bs => unfold execOp; go_simp
      have hs9 := (Below.heap_alloc (wr.drew.alloc (.chan room #[] false 0 0 false)) (.cells #[.chan (some wr.heap.size)] 49) w.heap.size (by rw [size_al]; have := (Array.getElem?_eq_some_iff.1 hp).1; show w.heap.size < wr.heap.size + 1; omega)).trans hHeld8
      refine hK.out _ _ hs9 (fun hHeld9 => ?_)
      clear hK K
      simp only [Act.put, List.setIfInBounds_toArray, List.set_cons_zero, List.set_cons_succ]
      have hB9 : Below w.heap.size w ((wr.drew.alloc (.chan room #[] false 0 0 false)).alloc (.cells #[.chan (some wr.heap.size)] 49)) := (((⟨hbe.os, hbe.tape, hbe.output, hbe.size, hbe.block⟩ : Below w.heap.size w wr.drew)).alloc hbe.size _).alloc (by rw [size_al]; have := hbe.size; show w.heap.size ≤ wr.heap.size + 1; omega) _
      have hzz : ((wr.drew.alloc (.chan room #[] false 0 0 false)).alloc (.cells #[.chan (some wr.heap.size)] 49)).heap.size = wr.heap.size + 2 := by rw [size_al, size_al]; rfl
      obtain ⟨v', w', hr, ho', hg'⟩ := append_chan ((wr.drew.alloc (.chan room #[] false 0 0 false)).alloc (.cells #[.chan (some wr.heap.size)] 49)) (w.heap.size + 1) lv k _ ((World.ownsRow.kept (w' := wr.drew) (row := none) ho ⟨rfl, rfl, rfl, Nat.le_refl _, fun _ _ _ => rfl⟩ (by cases lv.ownBlock <;> simp)).alloc _ |>.alloc _) (wr.heap.size + 1) wr.heap.size (by have h := heap_alloc_new (wr.drew.alloc (.chan room #[] false 0 0 false)) (.cells #[.chan (some wr.heap.size)] 49); rw [size_al] at h; exact h) (by omega) (by rw [hzz]; have := (Array.getElem?_eq_some_iff.1 hp).1; omega)
      obtain ⟨g2, cap2, rfl, hg2⟩ := owns_some ho' (by omega)
      refine one_ (i := 10) (N := some 23) #[true, true, true, true, true, true, true, true, true, true, true, false, false, false] rfl rfl (by kernel_rfl) (by simp) (fun K hK => ?_)
      refine value_ (v := .slice (some ⟨g2, 0, none⟩) (k + 1) cap2) (w' := w') rfl rfl (exec_append _ _ _ rfl hr) ?_
      have hne : ∀ q, lv.ownBlock = some q → w.heap.size + 1 ≤ q := fun q hq => (ho.lt q hq).1
      have hp' : w'.heap[w.heap.size]? = some (.cells #[lv, .int .i64 1, .int .i64 0] 48 (0, 0)) := (hg'.block _ (Array.getElem?_eq_some_iff.1 hHeld9).1 (fun e => by have := hne _ e.symm; omega)).trans hHeld9
      refine hK.out _ _ hp' (fun hHeldA => ?_)
      clear hK K
      simp only [Act.put, List.setIfInBounds_toArray, List.set_cons_zero, List.set_cons_succ]
      refine pure_ (i := 11) (N := some 24) (v := .pointer (some ⟨w.heap.size, 0, none⟩)) #[true, true, true, true, true, true, true, true, true, true, true, true, false, false] rfl rfl (by kernel_rfl) (fun _ _ _ h => h) (Or.inl ⟨by rfl, fun w' => by go_simp⟩) rfl ?_
      simp only [Act.put, List.setIfInBounds_toArray, List.set_cons_zero, List.set_cons_succ]
      refine pure_ (i := 12) (N := some 25) (v := .pointer (some ⟨w.heap.size, 0, none⟩)) #[true, true, true, true, true, true, true, true, true, true, true, true, true, false] rfl rfl (by kernel_rfl) (fun _ _ _ h => h) (Or.inl ⟨by rfl, fun w' => by go_simp⟩) rfl ?_
      simp only [Act.put, List.setIfInBounds_toArray, List.set_cons_zero, List.set_cons_succ]
      have cc := cell_of_row w' w.heap.size 0 _ _ _ hp'
      have ff := frozen_of_row w' w.heap.size 0 _ _ hp'
      refine last_ (i := 13) (N := none) #[true, true, true, true, true, true, true, true, true, true, true, true, true, true] rfl rfl (by kernel_rfl) (by simp) (fun K hK => ?_)
      rw [if_pos (show Region.wanted _ _ = true from rfl)]
      unfold Oper.wp execOp
      go_simp
      refine hK.out _ _ ?_
      refine done_ (by kernel_rfl) ?_
      go_wp2_with fail
      have hsz := (Array.getElem?_eq_some_iff.1 hp).1
      refine ⟨⟨k + 1, .slice (some ⟨g2, 0, none⟩) (k + 1) cap2, ch ++ [wr.heap.size], by omega, by simp, ?_, ?_, ?_, ?_, ?_⟩, by simp [intOf]; omega⟩
      · rw [heap_setCell_same _ _ _ _ _ _ hp']; rfl
      · rw [List.map_append]
        exact ho'.kept (row := some w.heap.size) ⟨rfl, rfl, rfl, by simp, fun q _ hq => heap_setCell_other _ _ _ _ (fun e => hq (by rw [e]))⟩ (by right; simp [Value.ownBlock]; omega)
      · rw [List.nodup_append]
        refine ⟨hnd, by simp, fun x hx y hy => ?_⟩
        have := (Array.getElem?_eq_some_iff.1 (hch x hx).2).1
        simp at hy
        omega
      · intro c hc
        have own_c : ∀ q, lv.ownBlock = some q → ∃ cur, wr.heap[q]? = some (.cells cur 49 (0, 0)) := fun q hq => by
          rcases ho.2 with ⟨rfl, _⟩ | ⟨g', cap', cur', rfl, _, hc', _⟩
          · simp [Value.ownBlock] at hq
          · simp [Value.ownBlock] at hq
            subst hq
            exact ⟨cur', hc'⟩
        have h9 : w.heap.size < c ∧ c < wr.heap.size + 2 ∧ some c ≠ lv.ownBlock ∧ ((wr.drew.alloc (.chan room #[] false 0 0 false)).alloc (.cells #[.chan (some wr.heap.size)] 49)).heap[c]? = some (.chan room #[] false 0 0 false) := by
          rcases List.mem_append.1 hc with h | h
          · obtain ⟨h1, h2⟩ := hch c h
            have hl := (Array.getElem?_eq_some_iff.1 h2).1
            refine ⟨h1, by omega, fun e => ?_, ?_⟩
            · obtain ⟨cur, h3⟩ := own_c c e.symm
              rw [h2] at h3; cases h3
            · rw [Below.heap_alloc _ _ _ (by rw [size_al]; show c < wr.heap.size + 1; omega)]
              exact (Below.heap_alloc wr.drew _ _ hl).trans h2
          · simp at h
            subst h
            refine ⟨hsz, by omega, fun e => ?_, ?_⟩
            · obtain ⟨cur, h3⟩ := own_c _ e.symm
              have := (Array.getElem?_eq_some_iff.1 h3).1
              omega
            · rw [Below.heap_alloc _ _ _ (by rw [size_al]; show wr.heap.size < wr.heap.size + 1; omega)]
              exact heap_alloc_new wr.drew _
        obtain ⟨h1, h2, h3, h4⟩ := h9
        refine ⟨h1, ?_⟩
        rw [heap_setCell_other _ _ _ _ (by show c ≠ w.heap.size; omega)]
        exact (hg'.block c (by rw [hzz]; exact h2) h3).trans h4
      · exact (hB9.grown hg' hB9.size (fun q hq => by have := hne q hq; omega)).setCell (by simp) _
    · have hkn : k = n := by omega
      subst hkn
      have Hp := Lib.hid hp; have Ho := Lib.hid ho; have Hc := Lib.hid (And.intro hnd (And.intro hch hbe))
      clear hp ho hnd hch hbe
      go_wp2_with fail
      go_ret
      obtain ⟨g, cap, hR⟩ := rep_of_new hn1 Hp.out Ho.out Hc.out.1 Hc.out.2.1
      exact ⟨g, cap, ch, rfl, Hc.out.2.2, hR⟩
end Dk
end Go.Proofs.Ytlhllbnoifppeaa
