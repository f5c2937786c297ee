/- What a dock is in memory, and what leaves it as it was. X: the blocks that are not the dock's. -/
import Derived.Test.YtlhllbnoifppeaaFrom
import Derived.Test.YtlhllbnoifppeaaClone
namespace Go.Proofs.Ytlhllbnoifppeaa
namespace Dk
open Go.RowKit Go.Conc
set_option maxHeartbeats 2000000
set_option maxRecDepth 100000

/-- Nothing of X has changed. -/
structure Same (X : Nat → Prop) (w w' : World) : Prop where
  os : w'.os = w.os
  tape : w'.tape = w.tape
  output : w'.output = w.output
  size : w.heap.size ≤ w'.heap.size
  block : ∀ k, k < w.heap.size → X k → w'.heap[k]? = w.heap[k]?
theorem Same.refl (X : Nat → Prop) (w : World) : Same X w w := ⟨rfl, rfl, rfl, Nat.le_refl _, fun _ _ _ => rfl⟩
theorem Same.trans {X : Nat → Prop} {a b c : World} (h : Same X a b) (h' : Same X b c) : Same X a c :=
  ⟨h'.os.trans h.os, h'.tape.trans h.tape, h'.output.trans h.output, Nat.le_trans h.size h'.size, fun k hk hx => (h'.block k (Nat.lt_of_lt_of_le hk h.size) hx).trans (h.block k hk hx)⟩
theorem Same.mono {X Y : Nat → Prop} {a b : World} (h : Same X a b) (hy : ∀ k, Y k → X k) : Same Y a b := ⟨h.os, h.tape, h.output, h.size, fun k hk hx => h.block k hk (hy k hx)⟩
theorem Same.of_below {X : Nat → Prop} {w w' : World} (h : Below w.heap.size w w') : Same X w w' := ⟨h.os, h.tape, h.output, h.size, fun k hk _ => h.block k hk⟩
theorem Same.below {X : Nat → Prop} {B : Nat} {w w' : World} (h : Same X w w') (hB : B ≤ w.heap.size) (hX : ∀ k, k < B → X k) : Below B w w' := ⟨h.os, h.tape, h.output, h.size, fun k hk => h.block k (by omega) (hX k hk)⟩

/-- One lane: channel c holds l. -/
def Lane (X : Nat → Prop) (w : World) (room : Nat) (c : Nat) (l : List (List Int)) : Prop :=
  ∃ buf s r, w.heap[c]? = some (.chan room buf false s r false) ∧ buf.size = l.length ∧ ¬ X c ∧ ∀ (j : Nat) (v : Value) (bs : List Int), buf[j]? = some v → l[j]? = some bs → Own5 X w v bs
/-- The dock at block pd: lanes L, each with room, the lane to look at first, the lost ones. -/
structure Rep (X : Nat → Prop) (w : World) (pd g cap : Nat) (ch : List Nat) (room : Nat) (L : List (List (List Int))) (nx lo : Int) : Prop where
  pb : w.heap[pd]? = some (.cells #[.slice (some ⟨g, 0, none⟩) ch.length cap, .int .i64 nx, .int .i64 lo] 48 (0, 0))
  gb : ∃ cur, w.heap[g]? = some (.cells cur 49 (0, 0)) ∧ ∀ (i c : Nat), ch[i]? = some c → cur[i]? = some (Value.chan (some c))
  len : L.length = ch.length
  nodup : ch.Nodup
  px : ¬ X pd
  gx : ¬ X g
  lane : ∀ (i c : Nat) (l : List (List Int)), ch[i]? = some c → L[i]? = some l → Lane X w room c l

theorem Own5.keep {X : Nat → Prop} {w w' : World} {v : Value} {bs : List Int} (h : Own5 X w v bs) (hb : ∀ k cur fr, w.heap[k]? = some (.cells cur 5 fr) → ¬ X k → w'.heap[k]? = w.heap[k]?) : Own5 X w' v bs := by
  obtain ⟨A, c, e, h2⟩ := h
  refine ⟨A, c, e, fun hp => ?_⟩
  obtain ⟨g, o, cur, fr, e2, hx, hg, hc⟩ := h2 hp
  exact ⟨g, o, cur, fr, e2, hx, (hb g cur fr hg hx).trans hg, hc⟩
theorem Lane.keep {X : Nat → Prop} {w w' : World} {room c : Nat} {l : List (List Int)} (h : Lane X w room c l) (hc : ¬ X c → w'.heap[c]? = w.heap[c]?) (hb : ∀ k cur fr, w.heap[k]? = some (.cells cur 5 fr) → ¬ X k → w'.heap[k]? = w.heap[k]?) : Lane X w' room c l := by
  obtain ⟨buf, s, r, h1, h2, h3, h4⟩ := h
  exact ⟨buf, s, r, (hc h3).trans h1, h2, h3, fun j v bs hj hl => (h4 j v bs hj hl).keep hb⟩
/-- What leaves all blocks that are none of X leaves the dock. -/
theorem Rep.keep {X : Nat → Prop} {w w' : World} {pd g cap : Nat} {ch : List Nat} {room : Nat} {L : List (List (List Int))} {nx lo : Int} (h : Rep X w pd g cap ch room L nx lo)
    (hb : ∀ k, k < w.heap.size → ¬ X k → w'.heap[k]? = w.heap[k]?) : Rep X w' pd g cap ch room L nx lo := by
  have lt : ∀ {k : Nat} {o : Obj}, w.heap[k]? = some o → k < w.heap.size := fun h => (Array.getElem?_eq_some_iff.1 h).1
  obtain ⟨cur, hg, hc⟩ := h.gb
  refine ⟨(hb _ (lt h.pb) h.px).trans h.pb, ⟨cur, (hb _ (lt hg) h.gx).trans hg, hc⟩, h.len, h.nodup, h.px, h.gx, fun i c l hi hl => ?_⟩
  have hl := h.lane i c l hi hl
  obtain ⟨buf, s, r, h1, _⟩ := id hl
  exact hl.keep (hb _ (lt h1)) (fun k cur fr hk hx => hb k (lt hk) hx)
theorem Rep.more {X Y : Nat → Prop} {w : World} {pd g cap : Nat} {ch : List Nat} {room : Nat} {L : List (List (List Int))} {nx lo : Int} (h : Rep X w pd g cap ch room L nx lo)
    (hy : ∀ k, k < w.heap.size → Y k → X k) : Rep Y w pd g cap ch room L nx lo := by
  have lt : ∀ {k : Nat} {o : Obj}, w.heap[k]? = some o → k < w.heap.size := fun h => (Array.getElem?_eq_some_iff.1 h).1
  obtain ⟨cur, hg, hc⟩ := h.gb
  refine ⟨h.pb, ⟨cur, hg, hc⟩, h.len, h.nodup, fun hx => h.px (hy _ (lt h.pb) hx), fun hx => h.gx (hy _ (lt hg) hx), fun i c l hi hl => ?_⟩
  obtain ⟨buf, s, r, h1, h2, h3, h4⟩ := h.lane i c l hi hl
  refine ⟨buf, s, r, h1, h2, fun hx => h3 (hy _ (lt h1) hx), fun j v bs hj hb => ?_⟩
  obtain ⟨A, c', e, h5⟩ := h4 j v bs hj hb
  refine ⟨A, c', e, fun hp => ?_⟩
  obtain ⟨g', o, cur', fr, e2, hx, hg', hc'⟩ := h5 hp
  exact ⟨g', o, cur', fr, e2, fun hy' => hx (hy _ (lt hg') hy'), hg', hc'⟩
theorem setChan_other (w : World) (c cap : Nat) (buf : Array Value) (cl : Bool) (s r : Nat) (tm : Bool) (k : Nat) (h : k ≠ c) : (w.setChan c cap buf cl s r tm).heap[k]? = w.heap[k]? := by
  simp only [World.setChan]
  rw [Array.getElem?_setIfInBounds_ne (Ne.symm h)]
theorem setChan_size (w : World) (c cap : Nat) (buf : Array Value) (cl : Bool) (s r : Nat) (tm : Bool) : (w.setChan c cap buf cl s r tm).heap.size = w.heap.size := by simp [World.setChan]
/-- A lane's channel changes: the dock with that lane changed. -/
theorem Rep.setChan {X : Nat → Prop} {w : World} {pd g cap : Nat} {ch : List Nat} {room : Nat} {L : List (List (List Int))} {nx lo : Int} (h : Rep X w pd g cap ch room L nx lo)
    {i c : Nat} {l : List (List Int)} {buf : Array Value} {s r : Nat} (hi : ch[i]? = some c) (hlen : buf.size = l.length) (hv : ∀ (j : Nat) (v : Value) (bs : List Int), buf[j]? = some v → l[j]? = some bs → Own5 X w v bs) :
    Rep X (w.setChan c room buf false s r false) pd g cap ch room (L.set i l) nx lo := by
  have hil : i < ch.length := (List.getElem?_eq_some_iff.1 hi).1
  have hLi : i < L.length := by rw [h.len]; exact hil
  obtain ⟨buf0, s0, r0, hc0, _, hcx, _⟩ := h.lane i c _ hi (List.getElem?_eq_getElem hLi)
  have hcl := (Array.getElem?_eq_some_iff.1 hc0).1
  have five : ∀ k cur fr, w.heap[k]? = some (.cells cur 5 fr) → ¬ X k → (w.setChan c room buf false s r false).heap[k]? = w.heap[k]? := fun k cur fr hk _ => setChan_other _ _ _ _ _ _ _ _ _ (by rintro rfl; rw [hc0] at hk; cases hk)
  obtain ⟨cur, hg, hcur⟩ := h.gb
  refine ⟨?_, ⟨cur, ?_, hcur⟩, by simp [h.len], h.nodup, h.px, h.gx, fun j c' l' hj hl' => ?_⟩
  · rw [setChan_other _ _ _ _ _ _ _ _ _ (by rintro rfl; have := h.pb; rw [hc0] at this; cases this)]; exact h.pb
  · rw [setChan_other _ _ _ _ _ _ _ _ _ (by rintro rfl; rw [hc0] at hg; cases hg)]; exact hg
  · by_cases hji : j = i
    · subst hji
      rw [hi] at hj
      obtain rfl := Option.some.inj hj
      rw [List.getElem?_set_self hLi] at hl'
      obtain rfl := Option.some.inj hl'
      exact ⟨buf, s, r, heap_setChan _ _ _ _ _ _ _ _ hcl, hlen, hcx, fun k v bs hk hb => (hv k v bs hk hb).keep five⟩
    · rw [List.getElem?_set_ne (Ne.symm hji)] at hl'
      have hne : c' ≠ c := by
        rintro rfl
        have hjl := (List.getElem?_eq_some_iff.1 hj).1
        have e1 : ch[j] = ch[i] := by
          have a := (List.getElem?_eq_some_iff.1 hj).2
          have b := (List.getElem?_eq_some_iff.1 hi).2
          rw [a, b]
        have hnd := List.pairwise_iff_getElem.1 h.nodup
        rcases Nat.lt_or_gt_of_ne hji with hlt | hgt
        · exact hnd j i hjl hil hlt e1
        · exact hnd i j hil hjl hgt e1.symm
      exact (h.lane j c' l' hj hl').keep (fun _ => setChan_other _ _ _ _ _ _ _ _ _ hne) five
end Dk
end Go.Proofs.Ytlhllbnoifppeaa
