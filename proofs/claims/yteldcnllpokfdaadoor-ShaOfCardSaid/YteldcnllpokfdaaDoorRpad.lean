/- The contracts of the reference's PutWord and Pad: eight bytes of new memory that hold the digits; a slice of new memory, with whatever room, that holds the padded bytes. -/
import Derived.Test.YteldcnllpokfdaaDoorWhole
import Derived.Laws.AppendOwn
import Derived.Laws.AppendOwnNone
namespace Go.Proofs.YteldcnllpokfdaaDoor
namespace Sha
open Go.RowKit
set_option maxHeartbeats 4000000
set_option maxRecDepth 1000000

def pw (d : Int) (k : Nat) : List Int := (List.range k).map (dig d) ++ List.replicate (8 - k) 0
theorem pw_length (d : Int) (k : Nat) (h : k ≤ 8) : (pw d k).length = 8 := by simp [pw]; omega
theorem pw_step (d : Int) (k : Nat) (h : k < 8) : (pw d k).set k (dig d k) = pw d (k + 1) := by
  unfold pw
  rw [List.set_append_right _ _ (by simp), List.range_succ, List.map_append, List.append_assoc]
  congr 1
  rw [show 8 - k = (8 - (k + 1)) + 1 by omega, List.replicate_succ]
  simp
theorem wrapu64 (a : Int) (h0 : 0 ≤ a) (h : a ≤ 1000) : IntKind.u64.wrap a = a := wrap64in a h0 h
def PwRel (w : World) (d : Int) (i : Value) (wr : World) : Prop :=
  ∃ k : Nat, k ≤ 8 ∧ i = .int .i64 k ∧ wr.heap[w.heap.size]? = some (.cells (bytes (pw d k)) 5 (0, 0)) ∧ Below w.heap.size w wr

theorem putword_any (d : Int) (w : World) (_h0 : 0 ≤ d) (_h1 : d < 18446744073709551616) :
    Calls Tryd.prog 19 #[.int .u64 d] w fun e w' => e = .returned (.slice (some ⟨w.heap.size, 0, none⟩) 8 8) ∧
      w'.heap[w.heap.size]? = some (.cells (bytes (pw d 8)) 5 (0, 0)) ∧ Below w.heap.size w w' := by
  have hmk := make_bytes w 8 8 rfl (by omega)
  go_enter Tryd.func19, Tryd.ntmps19
  go_wp2_with fail
  have hst : (w.alloc (.cells (bytes (List.replicate 8 0)) 5)).heap[w.heap.size]? = some (.cells (bytes (pw d 0)) 5 (0, 0)) := heap_alloc_new _ _
  have Hst := Lib.hid hst; clear hst
  clear hmk
  go_loopw [4] (fun i wr => PwRel w d i wr) (fun i _ => 8 - (intOf i).toNat)
  case atStart => exact ⟨0, by omega, rfl, Hst.out, (Below.refl _ _).alloc (Nat.le_refl _) _⟩
  case round =>
    clear Hst
    obtain ⟨k, hk, rfl, hp, hbe⟩ := hrel
    by_cases hlt : k < 8
    · have ca := cell_of_row wr _ k _ _ _ hp
      rw [bytes_get _ _ (by rw [pw_length _ _ hk]; exact hlt)] at ca
      obtain ⟨x1, hx1⟩ : ∃ x, x = (pw d k).getD k 0 := ⟨_, rfl⟩
      rw [← hx1] at ca
      have fa := frozen_of_row wr _ k _ _ hp
      have HP := Lib.hid hp; have Hbe := Lib.hid hbe; clear hp hbe hx1
      have g1 : (0 : Int) ≤ 56 - 8 * ↑k := by omega
      have g2 : (8 : Int) * ↑k ≤ 56 := by omega
      go_wp2_with fail
      go_roundw
      case rel =>
        refine ⟨k + 1, by omega, by go_num, ?_, Hbe.out.setCell (by simp) _⟩
        rw [heap_setCell_same _ _ _ _ _ _ HP.out, bytes_set, ← pw_step d k hlt, dig]
      case measure => simp [intOf]; omega
    · have hk8 : k = 8 := by omega
      subst hk8
      have HP := Lib.hid hp; have Hbe := Lib.hid hbe; clear hp hbe hlt hk
      go_wp2_with fail
      go_ret
      exact ⟨rfl, HP.out, Hbe.out⟩
theorem append_src (w : World) (A : Option Addr) (bs : List Int) (c : Nat) (hlen : bs.length ≤ 1099511627776) (hs : Src w A bs) :
    ∃ v' w', (Builtin.append_ #[24, 24] 24 #[.slice none 0 0, .slice A bs.length c]).run Tryd.prog w = .ok v' w' ∧ w'.ownsRow w.heap.size 5 1 v' bs.length (bs.map (.int .u8)) ∧ w.grownBy w' none := by
  obtain ⟨i0, hi, hz0, hz1, hz2⟩ := info_parts info5
  by_cases h0 : bs.length = 0
  · obtain rfl := List.eq_nil_of_length_eq_zero h0
    refine ⟨.slice none 0 0, w, ?_, World.ownsRow_nil w _ 5 1, ⟨rfl, rfl, rfl, Nat.le_refl _, fun _ _ _ => rfl⟩⟩
    cases A <;> simp [Builtin.append_, run_underlying Tryd.underlying24, sizeOf, typeInfo, hi, Builtin.lenOf, Builtin.firstCells, loadCells, loadCellsFrom]
  · obtain ⟨ad, rfl, hl, hc⟩ := hs (by omega)
    obtain ⟨v', w', h1, h2, h3, _⟩ := run_append_own (P := Tryd.prog) w w.heap.size 24 24 5 i0 (.int .u8 0) 1 1 Tryd.underlying24 hi hz0 hz1 hz2 rfl (by omega) _ 0 [] (World.ownsRow_nil w _ 5 1) ad bs.length c (bs.map (.int .u8)) (by simp) hc (fun u hu => by
        obtain ⟨x, _, rfl⟩ := List.mem_map.1 hu
        rfl) (by simp only [maxLen]; omega) (by omega) (Nat.le_refl _)
    rw [Nat.zero_add, List.nil_append] at h2
    exact ⟨v', w', h1, h2, h3⟩
def mapB (l : List Int) : List Value := l.map (.int .u8)
theorem mapB_one (l : List Int) : ∀ u ∈ mapB l, u.oneCell' = true := fun u hu => by
  obtain ⟨x, _, rfl⟩ := List.mem_map.1 hu
  rfl
def padm (bs : List Int) (m : Nat) : List Int := bs ++ 128 :: List.replicate (m - (bs.length + 1)) 0
theorem padm_step (bs : List Int) (m : Nat) (h : bs.length + 1 ≤ m) : padm bs m ++ [0] = padm bs (m + 1) := by
  unfold padm
  rw [show m + 1 - (bs.length + 1) = (m - (bs.length + 1)) + 1 by omega, List.replicate_succ']
  simp
theorem padm_end (bs : List Int) : padm bs (pt (bs.length + 1)) ++ pw (bits8 bs) 8 = padF bs := by
  unfold padm pw padF padk padz
  rfl
theorem wpList_append_run {P : Program} {w : World} {ops : Array Oper} {rest : List Oper} {o : Oper} {a : Act} {Q : Exit → Act → World → Prop} (hgd : o.guard = none) (s x : Operand) (t : TypeId)
    (ho : o.op = .call { callee := .builtin .append, args := #[s, x], argTypes := #[t, t] }) (vs vx v' : Value) (w' : World) (hs : a.eval s = vs) (hx : a.eval x = vx)
    (hr : (Builtin.append_ #[t, t] o.type #[vs, vx]).run P w = .ok v' w') (h : wpList P ops Q rest (a.put o.dst v') w') : wpList P ops Q (o :: rest) a w := by
  refine wpList_plain hgd fun K hK => ?_
  unfold Oper.wp execOp
  simp only [ho, resolve, invoke, builtin, Sem.run_bind, Sem.run_pure, Result.andThen_ok, List.map_toArray, List.map_cons, List.map_nil, hs, hx, hr]
  exact hK _ _ h
/-- An append to a row of the call's own, as a run. -/
theorem append_row (w : World) (base : Nat) (v : Value) (n : Nat) (xs : List Value) (hown : w.ownsRow base 5 1 v n xs) (g m c : Nat) (news : List Int) (hl : news.length = m) (cur : Array Value) (t : TypeId) (fr : Nat × Nat) (hg : w.heap[g]? = some (.cells cur t fr))
    (hcur : ∀ (j : Nat) (u : Value), (mapB news)[j]? = some u → cur[j]? = some u) (hb : n + m ≤ 140737488355328) (hbase : base ≤ w.heap.size) :
    ∃ v' w', (Builtin.append_ #[24, 24] 24 #[v, .slice (some ⟨g, 0, none⟩) m c]).run Tryd.prog w = .ok v' w' ∧ w'.ownsRow base 5 1 v' (n + m) (xs ++ mapB news) ∧ w.grownBy w' v.ownBlock := by
  obtain ⟨i0, hi, hz0, hz1, hz2⟩ := info_parts info5
  obtain ⟨v', w', h1, h2, h3, _⟩ := run_append_own (P := Tryd.prog) w base 24 24 5 i0 (.int .u8 0) 1 1 Tryd.underlying24 hi hz0 hz1 hz2 rfl (by omega) v n xs hown ⟨g, 0, none⟩ m c (mapB news) (by simp [mapB, hl]) (fun j u hu => by
      have hadd : (⟨g, 0, none⟩ : Addr).add j = ⟨g, j, none⟩ := by unfold Addr.add; split <;> simp_all
      rw [hadd, cell_of_row w g j cur t fr hg]
      exact hcur j u hu) (mapB_one _) (by simp only [maxLen]; omega) (by omega) hbase
  exact ⟨v', w', h1, h2, h3⟩
/-- The reference's slice under way: its own block, its numbers, the memory ahead as it was. -/
def RpRel (w : World) (bs : List Int) (v : Value) (wr : World) : Prop :=
  ∃ m g cap : Nat, bs.length + 1 ≤ m ∧ m ≤ pt (bs.length + 1) ∧ v = .slice (some ⟨g, 0, none⟩) m cap ∧ wr.ownsRow w.heap.size 5 1 v m (mapB (padm bs m)) ∧ Below w.heap.size w wr

theorem owns_some {w : World} {base e size : Nat} {v : Value} {n : Nat} {xs : List Value} (h : w.ownsRow base e size v n xs) (hn : 0 < n) : ∃ g cap, v = .slice (some ⟨g, 0, none⟩) n cap ∧ base ≤ g := by
  rcases h.2 with ⟨_, h0⟩ | ⟨g, cap, cur, h1, h2, _⟩
  · omega
  · exact ⟨g, cap, h1, h2⟩

theorem refpad_any (bs : List Int) (A : Option Addr) (c : Nat) (w : World) (hlen : bs.length ≤ 1099511627776) (hs : Src w A bs) :
    Calls Tryd.prog 18 #[.slice A bs.length c] w fun e w' => ∃ v', e = .returned v' ∧ w'.ownsRow w.heap.size 5 1 v' (padF bs).length (mapB (padF bs)) ∧ Below w.heap.size w w' := by
  obtain ⟨v1, w1, hr1, ho1, hg1⟩ := append_src w A bs c hlen hs
  have hpt := pt_ge (bs.length + 1)
  have hpt2 : pt (bs.length + 1) ≤ bs.length + 64 := by unfold pt; omega
  obtain ⟨v2, w2, hr2, ho2, hg2⟩ := append_row (w1.alloc (.cells #[.int .u8 128] 5)) w.heap.size v1 bs.length _ (ho1.alloc _) w1.heap.size 1 1 [128] rfl _ _ _ (heap_alloc_new _ _) (fun j u h => by simpa [mapB] using h) (by omega) (by rw [size_al]; have := hg1.size; omega)
  have hB1 : Below w.heap.size w (w1.alloc (.cells #[.int .u8 128] 5)) := ((Below.refl _ _).grown hg1 (Nat.le_refl _) (fun _ h => by cases h)).alloc hg1.size _
  have hB2 : Below w.heap.size w w2 := hB1.grown hg2 hB1.size (fun k hk => (ho1.lt k hk).1)
  have hS : RpRel w bs v2 w2 := by
    obtain ⟨g, cap, hv, _⟩ := owns_some ho2 (by omega)
    refine ⟨bs.length + 1, g, cap, Nat.le_refl _, hpt, hv, ?_, hB2⟩
    have e : mapB (padm bs (bs.length + 1)) = List.map (Value.int IntKind.u8) bs ++ mapB [128] := by simp [padm, mapB]
    rw [e]; exact ho2
  have HS := Lib.hid hS
  obtain ⟨n, hn⟩ : ∃ n, bs.length = n := ⟨_, rfl⟩
  rw [hn] at hr1 hlen hpt hpt2 ⊢
  have Hn := Lib.hid hn; clear hn hS hB1 hB2 ho1 hg1 ho2 hg2 hs
  go_enter Tryd.func18, Tryd.ntmps18
  go_wp2_with (first | (refine wpList_append_run (o := ⟨some 5, .call { callee := .builtin .append, args := #[.const (.slice none 0 0), .tmp 4], argTypes := #[24, 24] }, _, _, _, _⟩) rfl _ _ 24 rfl (.slice none 0 0) (.slice A n c) v1 w1 rfl ?hx1 hr1 ?hk1; (case hx1 => rfl)) | (refine wpList_append_run (o := ⟨some 7, .call { callee := .builtin .append, args := #[.tmp 5, .tmp 6], argTypes := #[24, 24] }, _, _, _, _⟩) rfl _ _ 24 rfl v1 _ v2 w2 ?hs2 ?hx2 hr2 ?hk2; (case hs2 => rfl); (case hx2 => rfl)))
  clear hr1 hr2
  go_loopw [3] (fun v wr => RpRel w bs v wr) (fun v _ => pt (n + 1) - slen v)
  case atStart => exact HS.out
  case round =>
    clear HS
    obtain ⟨m, g, cap, hm1, hm2, rfl, ho, hbe⟩ := hrel
    rw [Hn.out] at hm1 hm2
    by_cases hlt : m % 64 = 56
    · have hq : m = pt (n + 1) := by unfold pt at hm2 ⊢; omega
      have ht : ((m : Int) % 64 == 56) = true := by rw [beq_iff_eq]; omega
      have ht2 : ((m : Int) % 64 != 56) = false := by rw [bne_eq_false_iff_eq]; omega
      have Hpw := Lib.hid (fun W : World => putword_any (↑n * 8) W (by omega) (by omega))
      have hbnd : m + 8 ≤ 140737488355328 := by omega
      have Hq := Lib.hid hq; have Ho := Lib.hid ho; have Hbe := Lib.hid hbe; clear hq hlt hm2 ho hbe
      go_wp2_with fail
      refine (Hpw.out wr).mono ?_
      rintro e w3 ⟨rfl, hp3, hb3⟩
      have ho3 := Ho.out.kept (w' := w3) (row := none) ⟨hb3.os, hb3.tape, hb3.output, hb3.size, fun k hk _ => hb3.block k hk⟩ (by simp [Value.ownBlock])
      have hB3 : Below w.heap.size w w3 := Hbe.out.trans (hb3.mono Hbe.out.size)
      obtain ⟨v4, w4, hr4, ho4, hg4⟩ := append_row w3 w.heap.size _ m _ ho3 wr.heap.size 8 8 (pw (↑n * 8) 8) (pw_length _ _ (Nat.le_refl _)) _ _ _ hp3 (fun j u h => by simpa [mapB, bytes] using h) hbnd hB3.size
      have hB4 : Below w.heap.size w w4 := hB3.grown hg4 hB3.size (fun k hk => (ho3.lt k hk).1)
      have e4 : mapB (padm bs m) ++ mapB (pw (↑n * 8) 8) = mapB (padF bs) := by rw [← padm_end, Hq.out, bits8, Hn.out]; simp [mapB]
      have hl4 : m + 8 = (padF bs).length := by rw [padF_length, Hn.out, Hq.out]
      rw [e4, hl4] at ho4
      have H4 := Lib.hid (And.intro ho4 hB4)
      clear ho3 hB3 ho4 hg4 hB4 e4 hl4 hp3 hb3 Ho Hbe
      go_wp2_with (at_builtin; refine wpList_append_run (o := ⟨some 21, .call { callee := .builtin .append, args := #[.tmp 15, .tmp 20], argTypes := #[24, 24] }, _, _, _, _⟩) rfl _ _ 24 rfl _ _ _ w4 ?hs6 ?hx6 hr4 ?hk6; (case hs6 => rfl); (case hx6 => rfl))
      go_ret
      exact ⟨_, rfl, H4.out⟩
    · have hq : m + 1 ≤ pt (n + 1) := by unfold pt at hm2 ⊢; omega
      have ht : ((m : Int) % 64 == 56) = false := by rw [beq_eq_false_iff_ne]; omega
      have ht2 : ((m : Int) % 64 != 56) = true := by rw [bne_iff_ne]; omega
      obtain ⟨v2, w2, hr2, ho2, hg2⟩ := append_row (wr.alloc (.cells #[.int .u8 0] 5)) w.heap.size _ m _ (ho.alloc _) wr.heap.size 1 1 [0] rfl _ _ _ (heap_alloc_new _ _) (fun j u h => by simpa [mapB] using h) (by omega) (by rw [size_al]; have := hbe.size; omega)
      have hB1 : Below w.heap.size w (wr.alloc (.cells #[.int .u8 0] 5)) := hbe.alloc hbe.size _
      have hB2 : Below w.heap.size w w2 := hB1.grown hg2 hB1.size (fun k hk => (ho.lt k hk).1)
      obtain ⟨g2, cap2, rfl, _⟩ := owns_some ho2 (by omega)
      have hS : RpRel w bs (.slice (some ⟨g2, 0, none⟩) (m + 1) cap2) w2 := by
        refine ⟨m + 1, g2, cap2, by rw [Hn.out]; omega, by rw [Hn.out]; exact hq, rfl, ?_, hB2⟩
        have e : mapB (padm bs (m + 1)) = mapB (padm bs m) ++ mapB [0] := by rw [← padm_step _ _ (by rw [Hn.out]; exact hm1)]; simp [mapB]
        rw [e]; exact ho2
      have HS := Lib.hid hS
      clear hlt hS hB1 hB2 ho2 hg2 ho hbe
      go_wp2_with (at_builtin; refine wpList_append_run (o := ⟨some 14, .call { callee := .builtin .append, args := #[.tmp 12, .tmp 13], argTypes := #[24, 24] }, _, _, _, _⟩) rfl _ _ 24 rfl _ _ _ w2 ?hs4 ?hx4 hr2 ?hk4; (case hs4 => rfl); (case hx4 => rfl))
      go_roundw
      case rel => exact HS.out
      case measure => simp [slen]; omega
end Sha
end Go.Proofs.YteldcnllpokfdaaDoor
