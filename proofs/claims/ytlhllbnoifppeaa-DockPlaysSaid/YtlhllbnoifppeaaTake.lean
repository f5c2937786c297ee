/- The contracts of (*Dock).from, told by what the dock holds; of Len, Lost, Take. -/
import Derived.Test.YtlhllbnoifppeaaPut
import Derived.Conc.LoneSelectN
namespace Go.Proofs.Ytlhllbnoifppeaa
namespace Dk
open Go.RowKit Go.Conc
set_option maxHeartbeats 2000000
set_option maxRecDepth 100000

/-- No block of bytes has changed. -/
def Five (w w' : World) : Prop := ∀ (k : Nat) (cur : Array Value) (fr : Nat × Nat), w.heap[k]? = some (.cells cur 5 fr) → w'.heap[k]? = w.heap[k]?
theorem Five.refl (w : World) : Five w w := fun _ _ _ _ => rfl
theorem Five.trans {a b c : World} (h : Five a b) (h' : Five b c) : Five a c := fun k cur fr hk => (h' k cur fr ((h k cur fr hk).trans hk)).trans (h k cur fr hk)
theorem Own5.five {X : Nat → Prop} {w w' : World} {v : Value} {bs : List Int} (h : Own5 X w v bs) (hf : Five w w') : Own5 X w' v bs := h.keep fun k cur fr hk _ => hf k cur fr hk
section
variable {X : Nat → Prop} {w : World} {pd g cap : Nat} {ch : List Nat} {room : Nat} {L : List (List (List Int))} {nx lo : Int}
theorem Rep.at_ (h : Rep X w pd g cap ch room L nx lo) {i : Nat} {l : List (List Int)} (hl : L[i]? = some l) : ∃ k buf s r, ch[i]? = some k ∧ i < ch.length ∧ w.cell? ⟨g, i, none⟩ = some (.chan (some k)) ∧
    w.heap[k]? = some (.chan room buf false s r false) ∧ buf.size = l.length ∧ ¬ X k ∧ ∀ (j : Nat) (v : Value) (bs : List Int), buf[j]? = some v → l[j]? = some bs → Own5 X w v bs := by
  have hiL : i < L.length := (List.getElem?_eq_some_iff.1 hl).1
  have hi : i < ch.length := by rw [← h.len]; exact hiL
  have hci : ch[i]? = some ch[i] := List.getElem?_eq_getElem hi
  obtain ⟨buf, s, r, hch, hbl, hxk, hbv⟩ := h.lane i _ l hci hl
  obtain ⟨cur, hg, hcur⟩ := h.gb
  have cg := cell_of_row w g i _ _ _ hg
  rw [hcur i _ hci] at cg
  exact ⟨_, buf, s, r, hci, hi, cg, hch, hbl, hxk, hbv⟩
theorem from_empty (h : Rep X w pd g cap ch room L nx lo) {i : Nat} (hl : L[i]? = some []) :
    Calls Try.prog 18 #[.pointer (some ⟨pd, 0, none⟩), .int .i64 i] w fun e w' => e = .returned (.tuple #[.slice none 0 0, .bool false]) ∧ w' = w := by
  obtain ⟨k, buf, s, r, _, hi, cg, hch, hbl, _, _⟩ := h.at_ hl
  have hb : buf = #[] := Array.eq_empty_of_size_eq_zero (by rw [hbl]; rfl)
  rw [hb] at hch
  exact from_none w pd g i ch.length cap k room s r _ _ h.pb cg hi hch
theorem from_full (h : Rep X w pd g cap ch room L nx lo) {i : Nat} {b : List Int} {l : List (List Int)} (hl : L[i]? = some (b :: l)) :
    Calls Try.prog 18 #[.pointer (some ⟨pd, 0, none⟩), .int .i64 i] w fun e w' => ∃ v, e = .returned (.tuple #[v, .bool true]) ∧ Own5 X w' v b ∧ Five w w' ∧ Same X w w' ∧ Rep X w' pd g cap ch room (L.set i l) nx lo := by
  obtain ⟨k, buf, s, r, hci, hi, cg, hch, hbl, hxk, hbv⟩ := h.at_ hl
  have hb0 : 0 < buf.size := by rw [hbl]; simp
  refine (from_some w pd g i ch.length cap k room s r _ _ buf h.pb cg hi hch hb0).mono ?_
  rintro e w' ⟨rfl, rfl⟩
  have h0 : buf[0]? = some (buf.getD 0 undef) := by
    rw [Array.getElem?_eq_getElem hb0]
    simp [Array.getD, hb0]
  refine ⟨_, rfl, (hbv 0 _ b h0 rfl).keep (fun q cur fr hq _ => setChan_other _ _ _ _ _ _ _ _ _ (by rintro rfl; rw [hch] at hq; cases hq)), fun q cur fr hq => setChan_other _ _ _ _ _ _ _ _ _ (by rintro rfl; rw [hch] at hq; cases hq), ⟨rfl, rfl, rfl, by rw [setChan_size]; exact Nat.le_refl _, fun j _ hx => setChan_other _ _ _ _ _ _ _ _ _ (by rintro rfl; exact hxk hx)⟩, h.setChan hci ?_ ?_⟩
  · rw [Array.size_extract, hbl]; simp
  · intro j v bs hj hb
    refine hbv (j + 1) v bs ?_ (by simpa using hb)
    rw [Array.getElem?_extract] at hj
    split at hj
    · rw [Nat.add_comm]; exact hj
    · cases hj
theorem len_any (h : Rep X w pd g cap ch room L nx lo) (i : Int) :
    Calls Try.prog 11 #[.pointer (some ⟨pd, 0, none⟩), .int .i64 i] w fun e w' => e = .returned (.int .i64 (if 0 ≤ i then ((L.getD i.toNat []).length : Int) else 0)) ∧ w' = w := by
  have hp := h.pb
  have c0 := cell_of_row w pd 0 _ _ _ hp
  by_cases hi : 0 ≤ i ∧ i < ch.length
  · obtain ⟨j, rfl⟩ : ∃ j : Nat, i = j := ⟨i.toNat, by omega⟩
    have hj : j < L.length := by rw [h.len]; omega
    obtain ⟨k, buf, s, r, hci, hi2, cg, hch, hbl, hxk, hbv⟩ := h.at_ (List.getElem?_eq_getElem hj)
    have hb : (decide ((0 : Int) ≤ j) && decide ((j : Int) < ch.length)) = true := by
      rw [Bool.and_eq_true, decide_eq_true_iff, decide_eq_true_iff]; omega
    have hln := run_len_chan (P := Try.prog) (w := w) 49 3 Try.underlying49 hch
    have hw : (if (0 : Int) ≤ j then ((L.getD (j : Int).toNat []).length : Int) else 0) = buf.size := by
      rw [if_pos (by omega), hbl]; simp [hj]
    have His := Lib.hid (is_any w pd g ch.length cap j _ _ hp)
    rw [hw]
    clear hw h hbv hbl
    go_enter Try.func11, Try.ntmps11
    go_wp2_with fail
    refine His.out.mono ?_
    rintro e w1 ⟨rfl, rfl⟩
    rw [hb]
    go_wp2_with fail
    go_ret
    exact ⟨rfl, rfl⟩
  · have hb : (decide (0 ≤ i) && decide (i < ch.length)) = false := by
      rw [Bool.and_eq_false_iff, decide_eq_false_iff_not, decide_eq_false_iff_not]; omega
    have hw : (if (0 : Int) ≤ i then ((L.getD i.toNat []).length : Int) else 0) = 0 := by
      split
      · rw [List.getD_eq_getElem?_getD, List.getElem?_eq_none (by rw [h.len]; omega)]; rfl
      · rfl
    have His := Lib.hid (is_any w pd g ch.length cap i _ _ hp)
    rw [hw]
    go_enter Try.func11, Try.ntmps11
    go_wp2_with fail
    refine His.out.mono ?_
    rintro e w1 ⟨rfl, rfl⟩
    rw [hb]
    go_wp2_with fail
    go_ret
    exact ⟨rfl, rfl⟩
theorem lost_any (h : Rep X w pd g cap ch room L nx lo) :
    Calls Try.prog 12 #[.pointer (some ⟨pd, 0, none⟩)] w fun e w' => e = .returned (.int .i64 lo) ∧ w' = w := by
  have c0 := cell_of_row w pd 2 _ _ _ h.pb
  clear h
  go_enter Try.func12, Try.ntmps12
  go_wp2_with fail
  go_ret
  exact ⟨rfl, rfl⟩

/-- The lane that is looked at in the k-th place behind lane 0. -/
def look (n m k : Nat) : Nat := 1 + (m + k) % (n - 1)
theorem take_zero (h : Rep X w pd g cap ch room L nx lo) {b : List Int} {l : List (List Int)} (hl : L[0]? = some (b :: l)) :
    Calls Try.prog 10 #[.pointer (some ⟨pd, 0, none⟩)] w fun e w' => ∃ v, e = .returned (.tuple #[.int .i64 0, v, .bool true]) ∧ Own5 X w' v b ∧ Five w w' ∧ Same X w w' ∧ Rep X w' pd g cap ch room (L.set 0 l) nx lo := by
  have Hf := Lib.hid (from_full h hl)
  clear h hl
  go_enter Try.func10, Try.ntmps10
  go_wp2_with fail
  refine Hf.out.mono ?_
  rintro e w1 ⟨v, rfl, hx⟩
  have Hx := Lib.hid hx; clear hx
  go_wp2_with fail
  go_ret3
  exact ⟨_, rfl, Hx.out⟩
theorem take_other {m : Nat} (h : Rep X w pd g cap ch room L (m + 1) lo) (h0 : L[0]? = some []) (hm : m ≤ 1000) (hn : L.length ≤ 8) :
    Calls Try.prog 10 #[.pointer (some ⟨pd, 0, none⟩)] w fun e w' => (Five w w' ∧ Same X w w') ∧
      ((∃ k b l v, k < L.length - 1 ∧ (∀ j, j < k → L[look L.length m j]? = some []) ∧ L[look L.length m k]? = some (b :: l) ∧ e = .returned (.tuple #[.int .i64 (look L.length m k), v, .bool true]) ∧ Own5 X w' v b ∧ Rep X w' pd g cap ch room (L.set (look L.length m k) l) (look L.length m k + 1) lo) ∨
      ((∀ j, j < L.length - 1 → L[look L.length m j]? = some []) ∧ e = .returned (.tuple #[.int .i64 (-1), .slice none 0 0, .bool false]) ∧ Rep X w' pd g cap ch room L (m + 1) lo)) := by
  have H := Lib.hid h
  have hp := h.pb
  have c0 := cell_of_row w pd 0 _ _ _ hp
  have c1 := cell_of_row w pd 1 _ _ _ hp
  have f1 := frozen_of_row w pd 1 _ _ hp
  have hlen := h.len
  rw [← hlen] at c0
  have hn0 : 0 < L.length := (List.getElem?_eq_some_iff.1 h0).1
  obtain ⟨n, hnn⟩ : ∃ n, L.length = n := ⟨_, rfl⟩
  obtain ⟨q, rfl⟩ : ∃ q, n = q + 1 := ⟨n - 1, by rw [← hnn]; omega⟩
  rw [hnn] at hn hn0 c0 ⊢
  have hq1 : q + 1 - 1 = q := by omega
  have Hf := Lib.hid (from_empty h h0)
  have Hn := Lib.hid hnn
  clear h hp h0 hlen hnn
  go_enter Try.func10, Try.ntmps10
  go_wp2_with fail
  refine Hf.out.mono ?_
  rintro e w1 ⟨rfl, rfl⟩
  go_wp2_with fail
  go_loop [26] (fun v => ∃ k : Nat, k ≤ q ∧ v = .int .i64 k ∧ ∀ j, j < k → L[look (q + 1) m j]? = some []) (fun v => q - (intOf v).toNat)
  case atStart => exact ⟨0, by omega, rfl, fun j hj => by omega⟩
  case round =>
    obtain ⟨k, hk, rfl, hall⟩ := hrel
    by_cases hlt : k < q
    · have hqq : (q : Int) ≠ 0 := by omega
      have e1 : ((m : Int) + ↑k).tmod ↑q = (m + k) % q := Int.tmod_eq_emod_of_nonneg (by omega)
      have e2 : (0 : Int) ≤ ((m : Int) + ↑k) % ↑q := Int.emod_nonneg _ hqq
      have e3 : ((m : Int) + ↑k) % ↑q < q := Int.emod_lt_of_pos _ (by omega)
      have hlk : (1 : Int) + ((m : Int) + ↑k) % ↑q = (look (q + 1) m k : Nat) := by unfold look; rw [hq1]; simp
      have hlt2 : look (q + 1) m k < q + 1 := by omega
      have Hall := Lib.hid hall; have Hlk := Lib.hid hlk
      clear hall hlk
      go_wp2_with fail
      obtain ⟨j, hj⟩ : ∃ j, look (q + 1) m k = j := ⟨_, rfl⟩
      have hjl : j < L.length := by rw [Hn.out]; omega
      obtain ⟨l', hl'⟩ : ∃ l', L[j]? = some l' := ⟨_, List.getElem?_eq_getElem hjl⟩
      have Hj := Lib.hid hj
      rw [Hlk.out, hj]
      cases l' with
      | nil =>
        refine (from_empty H.out hl').mono ?_
        rintro e w2 ⟨rfl, rfl⟩
        clear e1 e2 e3 hlt2
        go_wp2_with fail
        go_round
        case rel =>
          refine ⟨k + 1, by omega, by go_num, fun i hi => ?_⟩
          by_cases hik : i = k
          · rw [hik, Hj.out]; exact hl'
          · exact Hall.out i (by omega)
        case measure => simp [intOf]; omega
      | cons b l =>
        refine (from_full H.out hl').mono ?_
        rintro e w2 ⟨v, rfl, hv5, hF, hS, hR⟩
        have c3 := cell_of_row w2 pd 1 _ _ _ hR.pb
        have f3 := frozen_of_row w2 pd 1 _ _ hR.pb
        have HR := Lib.hid (And.intro hv5 (And.intro hS hR)); have HF := Lib.hid hF
        have hj9 : (j : Int) + 1 ≤ 9 := by omega
        have hlb := hl'
        clear hv5 hS hR hF e1 e2 e3 hlt2 c0 c1 f1
        go_wp2_with fail
        go_ret3
        obtain ⟨v5, S5, R5⟩ := HR.out
        have C := (R5.cell (↑j + 1)).2
        have F5 : Five w2 (w2.setCell ⟨pd, 1, none⟩ (.int .i64 (↑j + 1))) := fun i cur fr hi => heap_setCell_other _ _ _ _ (fun e => by
          have e' : i = pd := e
          have := R5.pb
          rw [← e', hi] at this
          simp at this)
        exact ⟨⟨HF.out.trans F5, S5.trans C.1⟩, .inl ⟨k, b, l, v, hlt, Hall.out, by rw [Hj.out]; exact hlb, by rw [Hj.out]; rfl, v5.five F5, by rw [Hj.out]; exact C.2⟩⟩
    · have hkq : k = q := by omega
      subst hkq
      go_wp2_with fail
      go_ret3
      refine ⟨⟨Five.refl _, Same.refl _ _⟩, .inr ⟨hall, rfl, H.out⟩⟩
end
end Dk
end Go.Proofs.Ytlhllbnoifppeaa
