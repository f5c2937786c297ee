/- What the reference's dock is in memory; appends to no slice. X: the blocks that are not the program's dock's. -/
import Derived.Test.YtlhllbnoifppeaaFair
namespace Go.Proofs.Ytlhllbnoifppeaa
namespace Dk
open Go.RowKit
set_option maxHeartbeats 1000000
set_option linter.unusedVariables false

/-- v holds the bytes bs, in a block of X. -/
def Bts (X : Nat → Prop) (w : World) (v : Value) (bs : List Int) : Prop :=
  ∃ A c, v = .slice A bs.length c ∧ (0 < bs.length → ∃ g o cur fr, A = some ⟨g, o, none⟩ ∧ X g ∧ w.heap[g]? = some (.cells cur 5 fr) ∧ ∀ j u, (bs.map (Value.int .u8))[j]? = some u → cur[o + j]? = some u)
/-- v is a slice of slices of bytes: vs, in a block of X. -/
def RowOf (X : Nat → Prop) (w : World) (v : Value) (vs : List Value) : Prop :=
  ∃ A c, v = .slice A vs.length c ∧ vs.length ≤ c ∧ (A = none → c = 0) ∧ (0 < vs.length → ∃ g o cur fr, A = some ⟨g, o, none⟩ ∧ X g ∧ w.heap[g]? = some (.cells cur 25 fr) ∧ ∀ j u, vs[j]? = some u → cur[o + j]? = some u)
def LaneR (X : Nat → Prop) (w : World) (v : Value) (l : List (List Int)) : Prop :=
  ∃ vs, RowOf X w v vs ∧ vs.length = l.length ∧ ∀ (j : Nat) (u : Value) (bs : List Int), vs[j]? = some u → l[j]? = some bs → Bts X w u bs
/-- The reference's dock at block pr, its lanes in the array gl. -/
structure RRep (X : Nat → Prop) (w : World) (pr gl room : Nat) (L : List (List (List Int))) (at_ lost : Int) : Prop where
  pb : w.heap[pr]? = some (.cells #[.int .i64 room, .slice (some ⟨gl, 0, none⟩) L.length L.length, .int .i64 at_, .int .i64 lost] 38 (0, 0))
  px : X pr
  gx : X gl
  gb : ∃ cur, w.heap[gl]? = some (.cells cur 39 (0, 0)) ∧ ∀ (i : Nat) (l : List (List Int)), L[i]? = some l → ∃ v, cur[i]? = some v ∧ LaneR X w v l
theorem Bts.keep {X Y : Nat → Prop} {w w' : World} {v : Value} {bs : List Int} (h : Bts X w v bs) (hxy : ∀ k, X k → Y k) (hb : ∀ k cur fr, X k → w.heap[k]? = some (.cells cur 5 fr) → w'.heap[k]? = w.heap[k]?) : Bts Y w' v bs := by
  obtain ⟨A, c, e, h2⟩ := h
  refine ⟨A, c, e, fun hp => ?_⟩
  obtain ⟨g, o, cur, fr, e2, hx, hg, hc⟩ := h2 hp
  exact ⟨g, o, cur, fr, e2, hxy _ hx, (hb g cur fr hx hg).trans hg, hc⟩
theorem RowOf.keep {X Y : Nat → Prop} {w w' : World} {v : Value} {vs : List Value} (h : RowOf X w v vs) (hxy : ∀ k, X k → Y k) (hb : ∀ k cur fr, X k → w.heap[k]? = some (.cells cur 25 fr) → w'.heap[k]? = w.heap[k]?) : RowOf Y w' v vs := by
  obtain ⟨A, c, e, h1, h3, h2⟩ := h
  refine ⟨A, c, e, h1, h3, fun hp => ?_⟩
  obtain ⟨g, o, cur, fr, e2, hx, hg, hc⟩ := h2 hp
  exact ⟨g, o, cur, fr, e2, hxy _ hx, (hb g cur fr hx hg).trans hg, hc⟩
/-- All blocks of X but those of types 38 and 39 stay. -/
def Kept (X : Nat → Prop) (w w' : World) : Prop := ∀ (k : Nat) (cur : Array Value) (t : TypeId) (fr : Nat × Nat), X k → t = 5 ∨ t = 25 → w.heap[k]? = some (.cells cur t fr) → w'.heap[k]? = w.heap[k]?
theorem LaneR.keep {X Y : Nat → Prop} {w w' : World} {v : Value} {l : List (List Int)} (h : LaneR X w v l) (hxy : ∀ k, X k → Y k) (hb : Kept X w w') : LaneR Y w' v l := by
  obtain ⟨vs, h1, h2, h3⟩ := h
  exact ⟨vs, h1.keep hxy (fun k cur fr hx hk => hb k cur 25 fr hx (.inr rfl) hk), h2, fun j u bs hu hl => (h3 j u bs hu hl).keep hxy (fun k cur fr hx hk => hb k cur 5 fr hx (.inl rfl) hk)⟩
theorem RRep.keep {X Y : Nat → Prop} {w w' : World} {pr gl room : Nat} {L : List (List (List Int))} {at_ lost : Int} (h : RRep X w pr gl room L at_ lost) (hxy : ∀ k, X k → Y k) (hb : ∀ k, k < w.heap.size → X k → w'.heap[k]? = w.heap[k]?) : RRep Y w' pr gl room L at_ lost := by
  have lt : ∀ {k : Nat} {o : Obj}, w.heap[k]? = some o → k < w.heap.size := fun h => (Array.getElem?_eq_some_iff.1 h).1
  obtain ⟨cur, hg, hc⟩ := h.gb
  refine ⟨(hb _ (lt h.pb) h.px).trans h.pb, hxy _ h.px, hxy _ h.gx, cur, (hb _ (lt hg) h.gx).trans hg, fun i l hl => ?_⟩
  obtain ⟨v, hv, hr⟩ := hc i l hl
  exact ⟨v, hv, hr.keep hxy (fun k cur t fr hx _ hk => hb k (lt hk) hx)⟩
theorem RRep.at_ {X : Nat → Prop} {w : World} {pr gl room : Nat} {L : List (List (List Int))} {at_ lost : Int} (h : RRep X w pr gl room L at_ lost) {i : Nat} {l : List (List Int)} (hl : L[i]? = some l) :
    ∃ v A c vs, w.cell? ⟨gl, i, none⟩ = some v ∧ v = .slice A l.length c ∧ LaneR X w v l ∧ RowOf X w v vs ∧ vs.length = l.length ∧ ∀ (j : Nat) (u : Value) (bs : List Int), vs[j]? = some u → l[j]? = some bs → Bts X w u bs := by
  obtain ⟨cur, hg, hc⟩ := h.gb
  obtain ⟨v, hv, hr⟩ := hc i l hl
  obtain ⟨vs, h1, h2, h3⟩ := id hr
  obtain ⟨A, c, e, _⟩ := id h1
  have cg := cell_of_row w gl i _ _ _ hg
  rw [hv] at cg
  exact ⟨v, A, c, vs, cg, by rw [e, h2], hr, h1, h2, h3⟩
theorem info25 : (Try.prog.info? 25).map (fun i => (i.zero, i.size, i.bytes)) = some (some (.slice none 0 0), 1, 24) := by kernel_rfl
theorem append_fresh (w : World) (t e : TypeId) (z : Value) (bytes : Nat) (ht : Try.prog.underlying t = some (.slice e)) (hi0 : (Try.prog.info? e).map (fun i => (i.zero, i.size, i.bytes)) = some (some z, 1, bytes)) (hzc : z.cells.size = 1) (A : Option Addr) (c : Nat) (news : List Value)
    (hA : A = none → c = 0 ∧ news = []) (hc : ∀ ad, A = some ad → ∀ j u, news[j]? = some u → w.cell? (ad.add j) = some u) (h1 : ∀ u ∈ news, u.oneCell' = true) (hb : news.length * bytes ≤ 140737488355328) (hb1 : news.length ≤ maxLen) :
    ∃ v' w', (Builtin.append_ #[t, t] t #[.slice none 0 0, .slice A news.length c]).run Try.prog w = .ok v' w' ∧ w'.ownsRow w.heap.size e 1 v' news.length news ∧ w.grownBy w' none := by
  obtain ⟨i0, hi, hz0, hz1, hz2⟩ := info_parts hi0
  cases A with
  | none =>
    obtain ⟨rfl, rfl⟩ := hA rfl
    exact ⟨_, w, run_append_owned_none w w.heap.size t t e i0 1 ht hi _ 0 [] (World.ownsRow_nil _ _ _ _), World.ownsRow_nil _ _ _ _, ⟨rfl, rfl, rfl, Nat.le_refl _, fun _ _ _ => rfl⟩⟩
  | some ad =>
    obtain ⟨v', w', h1, h2, h3, _⟩ := run_append_own (P := Try.prog) w w.heap.size t t e i0 z 1 bytes ht hi hz0 hz1 hz2 hzc (by omega) (.slice none 0 0) 0 [] (World.ownsRow_nil _ _ _ _) ad news.length c news (by simp) (hc ad rfl) h1 (by omega) (by rw [Nat.zero_add]; exact hb) (Nat.le_refl _)
    rw [Nat.zero_add, List.nil_append] at h2
    exact ⟨v', w', h1, h2, h3⟩
end Dk
end Go.Proofs.Ytlhllbnoifppeaa
