/- The contracts of (*Dock).is and of slices.Clone at bytes: the copy's bytes lie in a block of bytes of its own. -/
import Derived.Test.YtlhllbnoifppeaaWpn
import Derived.WalkKit
import Derived.Lib.Hide
import Derived.Lib.SliceRun
import Derived.Laws.MakeOwn
import Derived.Below
namespace Go.Proofs.Ytlhllbnoifppeaa
namespace Dk
open Go.RowKit
set_option maxHeartbeats 2000000
set_option maxRecDepth 100000

theorem is_any (w : World) (pd g n cap : Nat) (i : Int) (nx lo : Value) (hp : w.heap[pd]? = some (.cells #[.slice (some ⟨g, 0, none⟩) n cap, nx, lo] 48 (0, 0))) :
    Calls Try.prog 16 #[.pointer (some ⟨pd, 0, none⟩), .int .i64 i] w fun e w' => e = .returned (.bool (decide (0 ≤ i) && decide (i < n))) ∧ w' = w := by
  have c0 := cell_of_row w pd 0 _ _ _ hp
  by_cases h0 : 0 ≤ i
  · by_cases h1 : i < n
    · go_enter Try.func16, Try.ntmps16
      go_wp2_with fail
      go_ret
      simp; omega
    · go_enter Try.func16, Try.ntmps16
      go_wp2_with fail
      go_ret
      simp [h1]
  · go_enter Try.func16, Try.ntmps16
    go_wp2_with fail
    go_ret
    simp; omega

/-- The bytes bs are read at A. -/
def Src (w : World) (A : Option Addr) (bs : List Int) : Prop :=
  0 < bs.length → ∃ ad, A = some ad ∧ ad.block < w.heap.size ∧ ∀ j v, (bs.map (Value.int .u8))[j]? = some v → w.cell? (ad.add j) = some v
/-- v holds the bytes bs, in a block of bytes that is none of X. -/
def Own5 (X : Nat → Prop) (w : World) (v : Value) (bs : List Int) : Prop :=
  ∃ A c, v = .slice A bs.length c ∧ (0 < bs.length → ∃ g o cur fr, A = some ⟨g, o, none⟩ ∧ ¬ X g ∧ w.heap[g]? = some (.cells cur 5 fr) ∧ ∀ j u, (bs.map (Value.int .u8))[j]? = some u → cur[o + j]? = some u)
theorem size_al (w : World) (o : Obj) : (w.alloc o).heap.size = w.heap.size + 1 := by show (w.heap.push o).size = _; simp
theorem add_block (a : Addr) (j : Nat) : (a.add j).block = a.block := by unfold Addr.add; split <;> rfl
theorem add_flat (g o j : Nat) : (⟨g, o, none⟩ : Addr).add j = ⟨g, o + j, none⟩ := by simp [Addr.add]
theorem Own5.src {X : Nat → Prop} {w : World} {A : Option Addr} {n c : Nat} {bs : List Int} (h : Own5 X w (.slice A n c) bs) : n = bs.length ∧ Src w A bs := by
  obtain ⟨A', c', e, h2⟩ := h
  injection e with e1 e2 e3
  subst e1; subst e2; subst e3
  refine ⟨rfl, fun hp => ?_⟩
  obtain ⟨g, o, cur, fr, rfl, _, hg, hc⟩ := h2 hp
  refine ⟨_, rfl, (Array.getElem?_eq_some_iff.1 hg).1, fun j v hv => ?_⟩
  rw [add_flat, cell_of_row w g (o + j) _ _ _ hg]
  exact hc j v hv
theorem info5 : (Try.prog.info? 5).map (fun i => (i.zero, i.size, i.bytes)) = some (some (.int .u8 0), 1, 1) := by kernel_rfl
theorem info_parts {P : Program} {t : TypeId} {z : Option Value} {n b : Nat} (h : (P.info? t).map (fun i => (i.zero, i.size, i.bytes)) = some (z, n, b)) : ∃ i, P.info? t = some i ∧ i.zero = z ∧ i.size = n ∧ i.bytes = b := by
  cases hq : P.info? t with
  | none => simp [hq] at h
  | some i =>
    simp [hq] at h
    exact ⟨i, rfl, h.1, h.2.1, h.2.2⟩
theorem wpList_append_run {P : Program} {w : World} {ops : Array Oper} {rest : List Oper} {o : Oper} {a : Act} {Q : Exit → Act → World → Prop} (hgd : o.guard = none) (s x : Operand) (t : TypeId)
    (ho : o.op = .call { callee := .builtin .append, args := #[s, x], argTypes := #[t, t] }) (vs vx v' : Value) (w' : World) (hs : a.eval s = vs) (hx : a.eval x = vx)
    (hr : (Builtin.append_ #[t, t] o.type #[vs, vx]).run P w = .ok v' w') (h : wpList P ops Q rest (a.put o.dst v') w') : wpList P ops Q (o :: rest) a w := by
  refine wpList_plain hgd fun K hK => ?_
  unfold Oper.wp execOp
  simp only [ho, resolve, invoke, builtin, Sem.run_bind, Sem.run_pure, Result.andThen_ok, List.map_toArray, List.map_cons, List.map_nil, hs, hx, hr]
  exact hK _ _ h
def mapB (l : List Int) : List Value := l.map (.int .u8)
theorem mapB_one (l : List Int) : ∀ u ∈ mapB l, u.oneCell' = true := fun u hu => by
  obtain ⟨x, _, rfl⟩ := List.mem_map.1 hu
  rfl
/-- An append of bytes that are read at A to a row of the call's own, as a run. -/
theorem append_src (w : World) (base : Nat) (v : Value) (n : Nat) (xs : List Value) (hown : w.ownsRow base 5 1 v n xs) (A : Option Addr) (bs : List Int) (c : Nat) (hs : Src w A bs) (hA : A ≠ none)
    (hb : n + bs.length ≤ 140737488355328) (hbase : base ≤ w.heap.size) :
    ∃ v' w', (Builtin.append_ #[25, 25] 25 #[v, .slice A bs.length c]).run Try.prog w = .ok v' w' ∧ w'.ownsRow base 5 1 v' (n + bs.length) (xs ++ mapB bs) ∧ w.grownBy w' v.ownBlock := by
  obtain ⟨i0, hi, hz0, hz1, hz2⟩ := info_parts info5
  obtain ⟨ad, rfl⟩ := Option.ne_none_iff_exists'.1 hA
  obtain ⟨v', w', h1, h2, h3, _⟩ := run_append_own (P := Try.prog) w base 25 25 5 i0 (.int .u8 0) 1 1 Try.underlying25 hi hz0 hz1 hz2 rfl (by omega) v n xs hown ad bs.length c (mapB bs) (by simp [mapB]) (fun j u hu => by
      have hp : 0 < bs.length := by
        cases bs with
        | nil => simp [mapB] at hu
        | cons x xs => simp
      obtain ⟨_, e, _, hc⟩ := hs hp
      obtain rfl := Option.some.inj e
      exact hc j u hu) (mapB_one _) (by simp only [maxLen]; omega) (by omega) hbase
  exact ⟨v', w', h1, h2, h3⟩
theorem own5_of_row {w : World} {base : Nat} {v : Value} {bs : List Int} (h : w.ownsRow base 5 1 v bs.length (mapB bs)) (X : Nat → Prop) (hX : ∀ k, base ≤ k → ¬ X k) : Own5 X w v bs := by
  rcases h.2 with ⟨rfl, h0⟩ | ⟨g, cap, cur, rfl, hg, hcur, _, _, _, htake⟩
  · exact ⟨none, 0, by rw [h0], fun hp => by omega⟩
  · refine ⟨_, _, rfl, fun _ => ⟨g, 0, cur, _, rfl, hX _ hg, hcur, fun j u hu => ?_⟩⟩
    have hu' : (mapB bs)[j]? = some u := hu
    rw [← htake, List.getElem?_take] at hu'
    split at hu'
    · simpa using hu'
    · cases hu'

theorem clone_any (bs : List Int) (A : Option Addr) (c : Nat) (w : World) (hlen : bs.length ≤ 1099511627776) (hs : Src w A bs) (X : Nat → Prop) (hX : ∀ k, X k → k < w.heap.size) :
    Calls Try.prog 17 #[.slice A bs.length c] w fun e w' => ∃ v', e = .returned v' ∧ Own5 X w' v' bs ∧ Below w.heap.size w w' := by
  cases A with
  | none =>
    have h0 : bs = [] := by
      cases bs with
      | nil => rfl
      | cons x xs => obtain ⟨_, h, _⟩ := hs (by simp); cases h
    subst h0
    have q25 : ∀ W, (binOp .eql 25 (.slice none 0 c) (.slice none 0 0)).run Try.prog W = .ok (.bool true) W := fun W => Lib.run_eql_slice_nil W _ _ none 0 c 0 0 Try.underlying25
    go_enter Try.func17, Try.ntmps17
    go_wp2_with fail
    go_ret
    exact ⟨_, rfl, ⟨none, 0, rfl, fun h => by simp at h⟩, Below.refl _ _⟩
  | some ad =>
    have hs2 : Src (w.alloc (.cells #[] 5)) (some ad) bs := fun hp => by
      obtain ⟨ad', e, hl, hc⟩ := hs hp
      exact ⟨ad', e, by rw [size_al]; omega, fun j v hv => (((Below.refl w.heap.size w).alloc (Nat.le_refl _) _).cell (p := ad'.add j) (by rw [add_block]; exact hl)).trans (hc j v hv)⟩
    obtain ⟨v', w', hr, ho, hg⟩ := append_src (w.alloc (.cells #[] 5)) w.heap.size (.slice (some ⟨w.heap.size, 0, none⟩) 0 0) 0 [] (World.ownsRow_made w #[] 0 (Nat.le_refl _) (by simp [maxLen]) rfl) (some ad) bs c hs2 (by simp) (by omega) (by rw [size_al]; omega)
    rw [Nat.zero_add, List.nil_append] at ho
    have hB : Below w.heap.size w w' := ((Below.refl w.heap.size w).alloc (Nat.le_refl _) _).grown hg (by rw [size_al]; omega) (fun k hk => by simp [Value.ownBlock] at hk; omega)
    have H := Lib.hid (And.intro (own5_of_row ho X (fun k hk hx => by have := hX k hx; omega)) hB)
    clear ho hg hB hs hs2 hX
    have q25 : ∀ W, (binOp .eql 25 (.slice (some ad) bs.length c) (.slice none 0 0)).run Try.prog W = .ok (.bool false) W := fun W => Lib.run_eql_slice_nil W _ _ (some ad) _ c 0 0 Try.underlying25
    go_enter Try.func17, Try.ntmps17
    go_wp2_with (at_builtin; refine wpList_append_run (o := ⟨some 7, .call { callee := .builtin .append, args := #[.tmp 5, .tmp 6], argTypes := #[25, 25] }, _, _, _, _⟩) rfl _ _ 25 rfl _ _ _ w' ?hs1 ?hx1 hr ?hk1; (case hs1 => rfl); (case hx1 => rfl))
    go_ret
    exact ⟨_, rfl, H.out⟩
end Dk
end Go.Proofs.Ytlhllbnoifppeaa
