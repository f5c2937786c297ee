/- What DockOrder keeps: the law's own rows beside the lanes. No walk here. -/
import Derived.Test.YtlhllbnoifppeaaFair
import Derived.Maps.AppendAt
namespace Go.Proofs.Ytlhllbnoifppeaa
namespace Dk
open Go.RowKit
set_option maxHeartbeats 1000000
set_option linter.unusedVariables false

def setAt {α : Type} (R : Nat → α) (p : Nat) (v : α) : Nat → α := fun x => if x = p then v else R x
theorem setAt_self {α : Type} (R : Nat → α) (p : Nat) (v : α) : setAt R p v p = v := by simp [setAt]
theorem setAt_ne {α : Type} (R : Nat → α) {p q : Nat} (v : α) (h : q ≠ p) : setAt R p v q = R q := by simp [setAt, h]
def ones (l : List Int) : List (List Int) := l.map fun x => [x]
/-- The lanes out of the rows. -/
def lanesOf (R : Nat → List Int) (n : Nat) : List (List (List Int)) := (List.range n).map fun p => ones (R p)
theorem lanesOf_len (R : Nat → List Int) (n : Nat) : (lanesOf R n).length = n := by simp [lanesOf]
theorem lanesOf_at (R : Nat → List Int) {n p : Nat} (hp : p < n) : (lanesOf R n)[p]? = some (ones (R p)) := by simp [lanesOf, hp]
theorem lanesOf_getD (R : Nat → List Int) {n p : Nat} (hp : p < n) : (lanesOf R n).getD p [] = ones (R p) := by rw [List.getD_eq_getElem?_getD, lanesOf_at R hp]; rfl
theorem lanesOf_set (R : Nat → List Int) {n p : Nat} (l : List Int) : (lanesOf R n).set p (ones l) = lanesOf (setAt R p l) n := by
  apply List.ext_getElem?
  intro q
  by_cases hq : q < n
  · rw [lanesOf_at _ hq]
    by_cases hpq : p = q
    · subst hpq
      rw [List.getElem?_set_self (by rw [lanesOf_len]; exact hq), setAt_self]
    · rw [List.getElem?_set_ne hpq, lanesOf_at _ hq, setAt_ne R l (Ne.symm hpq)]
  · rw [List.getElem?_eq_none (by rw [List.length_set, lanesOf_len]; omega), List.getElem?_eq_none (by rw [lanesOf_len]; omega)]
theorem ones_len (l : List Int) : (ones l).length = l.length := by simp [ones]
theorem ones_app (l : List Int) (x : Int) : ones l ++ [[x]] = ones (l ++ [x]) := by simp [ones]
theorem lanesOf_nil (n : Nat) : List.replicate n [] = lanesOf (fun _ => []) n := by
  apply List.ext_getElem?
  intro q
  by_cases hq : q < n
  · rw [lanesOf_at _ hq, List.getElem?_replicate, if_pos hq]; rfl
  · rw [List.getElem?_eq_none (by simp; omega), List.getElem?_eq_none (by rw [lanesOf_len]; omega)]
def cnt (R : Nat → List Int) : Nat → Nat
  | 0 => 0
  | n + 1 => cnt R n + (R n).length
theorem cnt_set (R : Nat → List Int) (p : Nat) (l : List Int) : ∀ n, cnt (setAt R p l) n + (if p < n then (R p).length else 0) = cnt R n + (if p < n then l.length else 0)
  | 0 => by simp [cnt]
  | n + 1 => by
    have ih := cnt_set R p l n
    unfold cnt
    by_cases h : p = n
    · subst h
      rw [setAt_self, if_pos (by omega), if_pos (by omega)]
      rw [if_neg (by omega), if_neg (by omega)] at ih
      omega
    · rw [setAt_ne R l (Ne.symm h)]
      by_cases h2 : p < n
      · rw [if_pos (by omega), if_pos (by omega)]
        rw [if_pos h2, if_pos h2] at ih
        omega
      · rw [if_neg (by omega), if_neg (by omega)]
        rw [if_neg h2, if_neg h2] at ih
        omega
theorem cnt_nil : ∀ n, cnt (fun _ => []) n = 0
  | 0 => rfl
  | n + 1 => by unfold cnt; rw [cnt_nil n]; rfl
theorem cnt_zero {R : Nat → List Int} : ∀ {n}, cnt R n = 0 → ∀ p, p < n → R p = []
  | 0, _, p, hp => by omega
  | n + 1, h, p, hp => by
    unfold cnt at h
    by_cases e : p = n
    · subst e; exact List.eq_nil_of_length_eq_zero (by omega)
    · exact cnt_zero (n := n) (by omega) p (by omega)
theorem laneIn_lanes (R : Nat → List Int) {n p room : Nat} (x : Int) (hp : p < n) : laneIn room (lanesOf R n) p [x] = if (R p).length < room then lanesOf (setAt R p (R p ++ [x])) n else lanesOf R n := by
  unfold laneIn
  rw [lanesOf_getD R hp, ones_len, ones_app, lanesOf_set]

/-- An own row whose block stays is an own row. -/
theorem own_keep {w w' : World} {base e size : Nat} {v : Value} {n : Nat} {xs : List Value} (h : w.ownsRow base e size v n xs) (hk : ∀ k, v.ownBlock = some k → w'.heap[k]? = w.heap[k]?) : w'.ownsRow base e size v n xs := by
  refine ⟨h.1, ?_⟩
  rcases h.2 with hn | ⟨g, cap, cur, rfl, hb, hgg, rest⟩
  · exact .inl hn
  · exact .inr ⟨g, cap, cur, rfl, hb, (hk g rfl).trans hgg, rest⟩
theorem append_at (w : World) (base : Nat) (v : Value) (n : Nat) (xs : List Value) (hown : w.ownsRow base 5 1 v n xs) (ad : Addr) (bs : List Int) (c : Nat) (hs : Src w (some ad) bs)
    (hb : n + bs.length ≤ 140737488355328) (hbase : base ≤ w.heap.size) :
    ∃ v' w', (Builtin.append_ #[25, 25] 25 #[v, .slice (some ad) bs.length c]).run Try.prog w = .ok v' w' ∧ w'.ownsRow base 5 1 v' (n + bs.length) (xs ++ mapB bs) ∧ w.grownBy w' v.ownBlock ∧
      (v'.ownBlock = v.ownBlock ∨ v'.ownBlock = some w.heap.size) := by
  obtain ⟨i0, hi, hz0, hz1, hz2⟩ := info_parts info5
  obtain ⟨v', w', h1, h2, h3, _, h4⟩ := run_append_own_at (P := Try.prog) w base 25 25 5 i0 (.int .u8 0) 1 1 Try.underlying25 hi hz0 hz1 hz2 rfl (by omega) v n xs hown ad bs.length c (mapB bs) (by simp [mapB]) (fun j u hu => by
      have hp : 0 < bs.length := by
        cases bs with
        | nil => simp [mapB] at hu
        | cons x xs => simp
      obtain ⟨_, e, _, hc⟩ := hs hp
      obtain rfl := Option.some.inj e
      exact hc j u hu) (mapB_one _) (by simp only [maxLen]; omega) (by omega) hbase
  exact ⟨v', w', h1, h2, h3, h4⟩

/-- While requests are put: inn taken in, lost ones, the rows R as the values V in the array b0; X: all that is not the dock's. -/
structure OrdAt (w : World) (b0 pd g cap n room : Nat) (ch : List Nat) (inn lost : Nat) (R : Nat → List Int) (V : Nat → Value) (X : Nat → Prop) (cur : Array Value) (wr : World) : Prop where
  rep : Rep X wr pd g cap ch room (lanesOf R n) 1 lost
  cnt : cnt R n = inn
  lt : ∀ k, X k → k < wr.heap.size
  old : ∀ k, k < w.heap.size → X k
  b0x : X b0
  wb : w.heap.size ≤ b0
  same : Same (Old w.heap.size) w wr
  blk : wr.heap[b0]? = some (.cells cur 41 (0, 0))
  cells : ∀ p, p < 8 → cur[p]? = some (V p)
  own : ∀ p, p < 8 → wr.ownsRow (b0 + 1) 5 1 (V p) (R p).length (mapB (R p))
  own_x : ∀ p k, p < 8 → (V p).ownBlock = some k → X k
  apart : ∀ p p' k, p < 8 → p' < 8 → p ≠ p' → (V p).ownBlock = some k → (V p').ownBlock ≠ some k
/-- After a Put that lost. -/
theorem OrdAt.full {w wr w2 : World} {b0 pd g cap n room inn lost : Nat} {ch : List Nat} {R : Nat → List Int} {V : Nat → Value} {X : Nat → Prop} {cur : Array Value} (h : OrdAt w b0 pd g cap n room ch inn lost R V X cur wr) (s2 : Same X wr w2) {lost' : Nat} {R' : Nat → List Int}
    (r2 : Rep X w2 pd g cap ch room (lanesOf R' n) 1 lost') (hR : R' = R) : OrdAt w b0 pd g cap n room ch inn lost' R V X cur w2 := by
  subst hR
  have hb := h.lt _ h.b0x
  exact ⟨r2, h.cnt, fun k hk => Nat.lt_of_lt_of_le (h.lt k hk) s2.size, h.old, h.b0x, h.wb, h.same.trans (s2.mono fun k hk => h.old k hk), (s2.block b0 hb h.b0x).trans h.blk, h.cells, fun p hp => own_keep (h.own p hp) (fun k hk => s2.block k (h.lt k (h.own_x p k hp hk)) (h.own_x p k hp hk)), h.own_x, h.apart⟩
/-- After a Put that went in, the row's append and its store. -/
theorem OrdAt.room {w wr w2 w4 : World} {b0 pd g cap n room inn lost : Nat} {ch : List Nat} {R : Nat → List Int} {V : Nat → Value} {X : Nat → Prop} {cur : Array Value} (h : OrdAt w b0 pd g cap n room ch inn lost R V X cur wr) (s2 : Same X wr w2) {q : Nat} {x : Int} (hn8 : n ≤ 8) (hq : q < n)
    (r2 : Rep X w2 pd g cap ch room (lanesOf (setAt R q (R q ++ [x])) n) 1 lost) (o : Obj) {v' : Value} (ho : w4.ownsRow (b0 + 1) 5 1 v' ((R q).length + [x].length) (mapB (R q) ++ mapB [x])) (hg : (w2.alloc o).grownBy w4 (V q).ownBlock)
    (hv : v'.ownBlock = (V q).ownBlock ∨ v'.ownBlock = some (w2.alloc o).heap.size) :
    OrdAt w b0 pd g cap n room ch (inn + 1) lost (setAt R q (R q ++ [x])) (setAt V q v') (fun k => X k ∨ v'.ownBlock = some k) (cur.setIfInBounds q v') (w4.setCell ⟨b0, q, none⟩ v') := by
  have hb := h.lt _ h.b0x
  have hq8 : q < 8 := by omega
  have hsz : (w2.alloc o).heap.size = w2.heap.size + 1 := size_al w2 o
  have h12 := s2.size
  have hg4 := hg.size
  have s5 : (w4.setCell ⟨b0, q, none⟩ v').heap.size = w4.heap.size := by simp
  have ownb : ∀ p k, p < 8 → (V p).ownBlock = some k → b0 + 1 ≤ k ∧ k < wr.heap.size := fun p k hp hk => (h.own p hp).lt k hk
  have hk5 : ∀ k, k < w2.heap.size → k ≠ b0 → some k ≠ (V q).ownBlock → (w4.setCell ⟨b0, q, none⟩ v').heap[k]? = w2.heap[k]? := fun k h1 h2 h3 => by
    rw [heap_setCell_other _ _ _ _ (fun e => h2 e), hg.block k (by omega) h3]
    exact Below.heap_alloc w2 o k h1
  have hk2 : ∀ k, X k → w2.heap[k]? = wr.heap[k]? := fun k hk => s2.block k (h.lt k hk) hk
  have hb4 : w4.heap[b0]? = some (.cells cur 41 (0, 0)) := by
    rw [hg.block b0 (by omega) (fun e => by have := (ownb q b0 hq8 e.symm).1; omega), Below.heap_alloc w2 o b0 (by omega), hk2 b0 h.b0x]
    exact h.blk
  refine ⟨?rep, ?cnt, ?lt, fun k hk => .inl (h.old k hk), .inl h.b0x, h.wb, ?same, ?blk, ?cells, ?own, ?own_x, ?apart⟩
  case rep =>
    refine (r2.more (fun k hk hy => ?_)).keep (fun k hk hx => hk5 k hk (fun e => hx (.inl (e ▸ h.b0x))) (fun e => hx (.inl (h.own_x q k hq8 e.symm))))
    rcases hy with h1 | h1
    · exact h1
    · rcases hv with h2 | h2
      · rw [h2] at h1; exact h.own_x q k hq8 h1
      · rw [h2] at h1; have := Option.some.inj h1; omega
  case cnt =>
    have := cnt_set R q (R q ++ [x]) n
    rw [if_pos hq, if_pos hq, List.length_append, h.cnt] at this
    simp at this
    omega
  case lt =>
    rintro k (hk | hk)
    · have := h.lt k hk; omega
    · have := (ho.lt k hk).2; omega
  case same =>
    refine (h.same.trans (s2.mono fun k hk => h.old k hk)).trans ⟨?_, ?_, ?_, by omega, fun k hk ho' => ?_⟩
    · exact hg.os
    · exact hg.tape
    · exact hg.output
    · have : k < w.heap.size := ho'
      have hwb := h.wb
      exact hk5 k hk (by omega) (fun e => by have := (ownb q k hq8 e.symm).1; omega)
  case blk => rw [heap_setCell_same _ _ _ _ _ _ hb4]
  case cells =>
    intro p hp
    rw [Array.getElem?_setIfInBounds]
    by_cases hqp : q = p
    · subst hqp
      have := (Array.getElem?_eq_some_iff.1 (h.cells q hp)).1
      simp [this, setAt_self]
    · rw [if_neg hqp, setAt_ne V v' (Ne.symm hqp)]
      exact h.cells p hp
  case own =>
    intro p hp
    by_cases hpq : p = q
    · subst hpq
      rw [setAt_self, setAt_self, List.length_append, show mapB (R p ++ [x]) = mapB (R p) ++ mapB [x] by simp [mapB]]
      exact own_keep ho (fun k hk => heap_setCell_other _ _ _ _ (fun e => by have := (ho.lt k hk).1; have e' : k = b0 := e; omega))
    · rw [setAt_ne V v' hpq, setAt_ne R _ hpq]
      refine own_keep (h.own p hp) (fun k hk => ?_)
      have h1 := ownb p k hp hk
      rw [hk5 k (by omega) (by omega) (fun e => h.apart p q k hp hq8 hpq hk e.symm)]
      exact hk2 k (h.own_x p k hp hk)
  case own_x =>
    intro p k hp hk
    by_cases hpq : p = q
    · subst hpq
      rw [setAt_self] at hk
      exact .inr hk
    · rw [setAt_ne V v' hpq] at hk
      exact .inl (h.own_x p k hp hk)
  case apart =>
    have new : ∀ p k, p < 8 → p ≠ q → (V p).ownBlock = some k → v'.ownBlock ≠ some k := fun p k hp hpq hk e => by
      rcases hv with h2 | h2
      · rw [h2] at e; exact h.apart p q k hp hq8 hpq hk e
      · rw [h2] at e
        have h1 := ownb p k hp hk
        have := Option.some.inj e
        omega
    intro p p' k hp hp' hpp hk
    by_cases hpq : p = q
    · subst hpq
      rw [setAt_self] at hk
      rw [setAt_ne V v' (Ne.symm hpp)]
      exact fun e => new p' k hp' (Ne.symm hpp) e hk
    · rw [setAt_ne V v' hpq] at hk
      by_cases hpq' : p' = q
      · subst hpq'
        rw [setAt_self]
        exact new p k hp hpq hk
      · rw [setAt_ne V v' hpq']
        exact h.apart p p' k hp hp' hpp hk
/-- The bytes bs are read through v. -/
def Row (w : World) (v : Value) (bs : List Int) : Prop :=
  ∃ A c, v = .slice A bs.length c ∧ bs.length ≤ c ∧ (0 < bs.length → ∃ g o cur fr, A = some ⟨g, o, none⟩ ∧ w.heap[g]? = some (.cells cur 5 fr) ∧ ∀ j u, (mapB bs)[j]? = some u → cur[o + j]? = some u)
theorem Row.five {w w' : World} {v : Value} {bs : List Int} (h : Row w v bs) (hf : ∀ (k : Nat) (cur : Array Value) (fr : Nat × Nat), w.heap[k]? = some (.cells cur 5 fr) → w'.heap[k]? = w.heap[k]?) : Row w' v bs := by
  obtain ⟨A, c, e, h1, h2⟩ := h
  refine ⟨A, c, e, h1, fun hp => ?_⟩
  obtain ⟨g, o, cur, fr, e2, hg, hc⟩ := h2 hp
  exact ⟨g, o, cur, fr, e2, (hf g cur fr hg).trans hg, hc⟩
theorem Row.of_own {w : World} {base : Nat} {v : Value} {bs : List Int} (h : w.ownsRow base 5 1 v bs.length (mapB bs)) : Row w v bs := by
  rcases h.2 with ⟨rfl, h0⟩ | ⟨g, cap, cur, rfl, hg, hcur, hle, _, _, htake⟩
  · exact ⟨none, 0, by rw [h0], by omega, fun hp => by omega⟩
  · refine ⟨_, _, rfl, hle, fun _ => ⟨g, 0, cur, _, rfl, hcur, fun j u hu => ?_⟩⟩
    rw [← htake, List.getElem?_take] at hu
    split at hu
    · simpa using hu
    · cases hu
/-- While requests are taken: left are waiting still, in the rows R, read through V. -/
structure DrainAt (w : World) (b0 pd g cap n room : Nat) (ch : List Nat) (left lost : Nat) (R : Nat → List Int) (V : Nat → Value) (m : Nat) (cur : Array Value) (wr : World) : Prop where
  rep : Rep (fun k => Old w.heap.size k ∨ k = b0) wr pd g cap ch room (lanesOf R n) (m + 1) lost
  cnt : cnt R n = left
  wb : w.heap.size ≤ b0
  same : Same (Old w.heap.size) w wr
  blk : wr.heap[b0]? = some (.cells cur 41 (0, 0))
  cells : ∀ p, p < 8 → cur[p]? = some (V p)
  rows : ∀ p, p < 8 → Row wr (V p) (R p)
theorem OrdAt.drain {w wr : World} {b0 pd g cap n room inn lost : Nat} {ch : List Nat} {R : Nat → List Int} {V : Nat → Value} {X : Nat → Prop} {cur : Array Value} (h : OrdAt w b0 pd g cap n room ch inn lost R V X cur wr) : DrainAt w b0 pd g cap n room ch inn lost R V 0 cur wr :=
  ⟨h.rep.more (fun k _ hy => by
    rcases hy with h1 | h1
    · exact h.old k h1
    · rw [h1]; exact h.b0x), h.cnt, h.wb, h.same, h.blk, h.cells, fun p hp => Row.of_own (h.own p hp)⟩
/-- A request was taken from lane q, its byte from the row. -/
theorem DrainAt.step {w wr w3 : World} {b0 pd g cap n room left lost : Nat} {ch : List Nat} {R : Nat → List Int} {V : Nat → Value} {m : Nat} {cur : Array Value} (h : DrainAt w b0 pd g cap n room ch (left + 1) lost R V m cur wr) {q : Nat} {x : Int} {rest : List Int} {m' : Nat} (hn8 : n ≤ 8) (hq : q < n) (hR : R q = x :: rest)
    (f3 : Five wr w3) (s3 : Same (fun k => Old w.heap.size k ∨ k = b0) wr w3) (r3 : Rep (fun k => Old w.heap.size k ∨ k = b0) w3 pd g cap ch room (lanesOf (setAt R q rest) n) (m' + 1) lost) {v' : Value} (hv : Row w3 v' rest) (N : Nat) :
    DrainAt w b0 pd g cap n room ch left lost (setAt R q rest) (setAt V q v') m' (cur.setIfInBounds q v') ((w3.drewN N).setCell ⟨b0, q, none⟩ v') := by
  have hb := (Array.getElem?_eq_some_iff.1 h.blk).1
  have hb3 : w3.heap[b0]? = some (.cells cur 41 (0, 0)) := (s3.block b0 hb (.inr rfl)).trans h.blk
  have hne : ∀ k, k ≠ b0 → ((w3.drewN N).setCell ⟨b0, q, none⟩ v').heap[k]? = w3.heap[k]? := fun k hk => heap_setCell_other (w3.drewN N) _ _ _ (fun e => hk e)
  have f4 : ∀ (k : Nat) (cur : Array Value) (fr : Nat × Nat), w3.heap[k]? = some (.cells cur 5 fr) → ((w3.drewN N).setCell ⟨b0, q, none⟩ v').heap[k]? = w3.heap[k]? := fun k cu fr hk => hne k (by
    rintro rfl
    rw [hb3] at hk
    simp at hk)
  refine ⟨r3.keep (fun k hk hx => hne k (fun e => hx (.inr e))), ?_, h.wb, (h.same.trans (s3.mono fun k hk => .inl hk)).trans ⟨rfl, rfl, rfl, by simp [World.drewN], fun k _ hk => hne k (fun e => ?_)⟩, ?_, fun p hp => ?_, fun p hp => ?_⟩
  · have := cnt_set R q rest n
    rw [if_pos hq, if_pos hq, h.cnt, hR] at this
    simp at this
    omega
  · have := h.wb; unfold Old at hk; omega
  · rw [heap_setCell_same (w3.drewN N) _ _ _ _ _ hb3]
  · rw [Array.getElem?_setIfInBounds]
    by_cases hqp : q = p
    · subst hqp
      have := (Array.getElem?_eq_some_iff.1 (h.cells q hp)).1
      simp [this, setAt_self]
    · rw [if_neg hqp, setAt_ne V v' (Ne.symm hqp)]
      exact h.cells p hp
  · by_cases hpq : p = q
    · subst hpq
      rw [setAt_self, setAt_self]
      exact hv.five f4
    · rw [setAt_ne V v' hpq, setAt_ne R _ hpq]
      exact ((h.rows p hp).five f3).five f4
end Dk
end Go.Proofs.Ytlhllbnoifppeaa
