/- The contract of (*Dock).Put. -/
import Derived.Test.YtlhllbnoifppeaaRep
namespace Go.Proofs.Ytlhllbnoifppeaa
namespace Dk
open Go.RowKit Go.Conc
set_option maxHeartbeats 2000000
set_option maxRecDepth 100000

/-- The count of the lost ones rises by one. -/
theorem Rep.lose {X : Nat → Prop} {w : World} {pd g cap : Nat} {ch : List Nat} {room : Nat} {L : List (List (List Int))} {nx lo : Int} (h : Rep X w pd g cap ch room L nx lo) (nx' lo' : Int) {w' : World}
    (hp : w'.heap[pd]? = some (.cells #[.slice (some ⟨g, 0, none⟩) ch.length cap, .int .i64 nx', .int .i64 lo'] 48 (0, 0))) (ho : ∀ k, k ≠ pd → w'.heap[k]? = w.heap[k]?) : Rep X w' pd g cap ch room L nx' lo' := by
  obtain ⟨cur, hg, hc⟩ := h.gb
  have hgp : g ≠ pd := by
    rintro rfl
    have := h.pb
    rw [hg] at this
    simp at this
  refine ⟨hp, ⟨cur, (ho _ hgp).trans hg, hc⟩, h.len, h.nodup, h.px, h.gx, fun i c l hi hl => ?_⟩
  have hl := h.lane i c l hi hl
  obtain ⟨buf, s, r, h1, _⟩ := id hl
  refine hl.keep (fun _ => ho _ (by rintro rfl; have := h.pb; rw [h1] at this; cases this)) (fun k cur fr hk _ => ho _ (by rintro rfl; have := h.pb; rw [hk] at this; simp at this))

theorem Rep.cell {X : Nat → Prop} {w : World} {pd g cap : Nat} {ch : List Nat} {room : Nat} {L : List (List (List Int))} {nx lo : Int} (h : Rep X w pd g cap ch room L nx lo) (v : Int) :
    (Same X w (w.setCell ⟨pd, 2, none⟩ (.int .i64 v)) ∧ Rep X (w.setCell ⟨pd, 2, none⟩ (.int .i64 v)) pd g cap ch room L nx v) ∧
    Same X w (w.setCell ⟨pd, 1, none⟩ (.int .i64 v)) ∧ Rep X (w.setCell ⟨pd, 1, none⟩ (.int .i64 v)) pd g cap ch room L v lo := by
  have hs : ∀ o : Nat, Same X w (w.setCell ⟨pd, o, none⟩ (.int .i64 v)) := fun o => ⟨rfl, rfl, rfl, by simp, fun k _ hx => heap_setCell_other _ _ _ _ (fun e => h.px (by
    have e' : k = pd := e
    rw [← e']; exact hx))⟩
  refine ⟨⟨hs 2, ?_⟩, hs 1, ?_⟩
  · refine h.lose nx v ?_ (fun k hk => heap_setCell_other _ _ _ _ (fun e => hk e))
    rw [heap_setCell_same _ _ _ _ _ _ h.pb]; rfl
  · refine h.lose v lo ?_ (fun k hk => heap_setCell_other _ _ _ _ (fun e => hk e))
    rw [heap_setCell_same _ _ _ _ _ _ h.pb]; rfl
theorem put_out (X : Nat → Prop) (w : World) (pd g cap : Nat) (ch : List Nat) (room : Nat) (L : List (List (List Int))) (nx lo : Int) (h : Rep X w pd g cap ch room L nx lo) (i : Int) (A : Option Addr) (c : Nat) (bs : List Int)
    (hi : ¬ (0 ≤ i ∧ i < ch.length)) (hlo : -1 ≤ lo) (hlo2 : lo < 1000000) :
    Calls Try.prog 9 #[.pointer (some ⟨pd, 0, none⟩), .int .i64 i, .slice A bs.length c] w fun e w' => e = .returned (.bool false) ∧ Same X w w' ∧ Rep X w' pd g cap ch room L nx (lo + 1) := by
  have H := Lib.hid h
  have hp := h.pb
  have c2 := cell_of_row w pd 2 _ _ _ hp
  have f2 := frozen_of_row w pd 2 _ _ hp
  clear h
  have hb : (decide (0 ≤ i) && decide (i < ch.length)) = false := by
    rw [Bool.and_eq_false_iff, decide_eq_false_iff_not, decide_eq_false_iff_not]; omega
  go_enter Try.func9, Try.ntmps9
  go_wp2_with fail
  refine (is_any w pd g ch.length cap i _ _ hp).mono ?_
  rintro e w1 ⟨rfl, rfl⟩
  rw [hb]
  go_wp2_with fail
  go_ret
  exact ⟨rfl, (H.out.cell (lo + 1)).1⟩

theorem put_full (X : Nat → Prop) (w : World) (pd g cap : Nat) (ch : List Nat) (room : Nat) (L : List (List (List Int))) (nx lo : Int) (h : Rep X w pd g cap ch room L nx lo) (hX : ∀ k, X k → k < w.heap.size) (i : Nat) (A : Option Addr) (c : Nat) (bs : List Int)
    (l : List (List Int)) (hl : L[i]? = some l) (hf : room ≤ l.length) (hlen : bs.length ≤ 1099511627776) (hs : Src w A bs) (hlo : -1 ≤ lo) (hlo2 : lo < 1000000) :
    Calls Try.prog 9 #[.pointer (some ⟨pd, 0, none⟩), .int .i64 i, .slice A bs.length c] w fun e w' => e = .returned (.bool false) ∧ Same X w w' ∧ Rep X w' pd g cap ch room L nx (lo + 1) := by
  have hiL : i < L.length := (List.getElem?_eq_some_iff.1 hl).1
  have hi : i < ch.length := by rw [← h.len]; exact hiL
  have hci : ch[i]? = some ch[i] := List.getElem?_eq_getElem hi
  obtain ⟨k, hk⟩ : ∃ k, ch[i] = k := ⟨_, rfl⟩
  rw [hk] at hci
  obtain ⟨buf, s, r, hch, hbl, hxk, hbv⟩ := h.lane i k l hci hl
  obtain ⟨cur, hg, hcur⟩ := h.gb
  have hp := h.pb
  have cg := cell_of_row w g i _ _ _ hg
  rw [hcur i k hci] at cg
  have c0 := cell_of_row w pd 0 _ _ _ hp
  obtain ⟨n, hn⟩ : ∃ n, ch.length = n := ⟨_, rfl⟩
  have H := Lib.hid h; have Hs := Lib.hid hs; have HX := Lib.hid hX; have Hn := Lib.hid hn
  rw [hn] at hi c0 hp
  clear h hcur hs hX hn hg
  have hb : (decide ((0 : Int) ≤ i) && decide ((i : Int) < n)) = true := by
    rw [Bool.and_eq_true, decide_eq_true_iff, decide_eq_true_iff]; omega
  refine calls_of_wpN Try.func9 (c := Try.f9.body.getD .skip) rfl ?_
  simp only [Try.f9, Option.getD_some, List.size_toArray, List.length_cons, List.length_nil, Nat.reduceAdd, Nat.reduceSub, Array.replicate_succ,
     Array.replicate_zero, List.push_toArray, List.append_toArray, List.nil_append, List.cons_append]
  refine wpN_seq_k fun K1 h1 => wpN_of_wp ?_
  go_wp2_with fail
  refine wpN_seq_k fun K2 h2 => ?_
  refine wpN_seq_k fun K3 h3 => wpN_of_wp ?_
  go_wp2_with fail
  refine (is_any w pd g n cap i _ _ hp).mono ?_
  rintro e w1 ⟨rfl, rfl⟩
  rw [hb]
  go_wp2_with fail
  refine wpN_cond (t := true) rfl ?_
  rw [if_pos rfl]
  refine wpN_seq_k fun K4 h4 => wpN_of_wp ?_
  go_wp2_with fail
  refine (clone_any bs A c w1 hlen Hs.out X HX.out).mono ?_
  rintro e w2 ⟨v', rfl, hv5, hb2⟩
  have hkl : k < w1.heap.size := (Array.getElem?_eq_some_iff.1 hch).1
  have hch2 := (hb2.block k hkl).trans hch
  have R2 := H.out.keep (w' := w2) (fun j hj _ => hb2.block j hj)
  have S2 : Same X w1 w2 := Same.of_below hb2
  have p2 := R2.pb
  have c2 := cell_of_row w2 pd 2 _ _ _ p2
  have f2 := frozen_of_row w2 pd 2 _ _ p2
  have HR := Lib.hid (And.intro R2 S2); have Hv := Lib.hid hv5
  clear R2 S2 hb2 hch hp c0 cg p2 hv5
  go_wp2_with fail
  refine wpN_seq_k fun K5 h5 => ?_
  refine wpN_send_full (c := k) (v := v') (z' := .slice none 0 0) rfl ?ex hch2 (by rw [hbl]; exact hf) ?_
  case ex => simp [execOp, scase, Act.eval]
  go_wp2_with fail
  refine wpN_of_wp ?_
  go_wp2_with fail
  refine wpN_of_wp ?_
  go_wp2_with fail
  go_ret
  exact ⟨rfl, HR.out.2.trans (HR.out.1.cell (lo + 1)).1.1, (HR.out.1.cell (lo + 1)).1.2⟩

theorem put_room (X : Nat → Prop) (w : World) (pd g cap : Nat) (ch : List Nat) (room : Nat) (L : List (List (List Int))) (nx lo : Int) (h : Rep X w pd g cap ch room L nx lo) (hX : ∀ k, X k → k < w.heap.size) (i : Nat) (A : Option Addr) (c : Nat) (bs : List Int)
    (l : List (List Int)) (hl : L[i]? = some l) (hf : l.length < room) (hlen : bs.length ≤ 1099511627776) (hs : Src w A bs) :
    Calls Try.prog 9 #[.pointer (some ⟨pd, 0, none⟩), .int .i64 i, .slice A bs.length c] w fun e w' => e = .returned (.bool true) ∧ Same X w w' ∧ Rep X w' pd g cap ch room (L.set i (l ++ [bs])) nx lo := by
  have hiL : i < L.length := (List.getElem?_eq_some_iff.1 hl).1
  have hi : i < ch.length := by rw [← h.len]; exact hiL
  have hci : ch[i]? = some ch[i] := List.getElem?_eq_getElem hi
  obtain ⟨k, hk⟩ : ∃ k, ch[i] = k := ⟨_, rfl⟩
  rw [hk] at hci
  obtain ⟨buf, s, r, hch, hbl, hxk, hbv⟩ := h.lane i k l hci hl
  obtain ⟨cur, hg, hcur⟩ := h.gb
  have hp := h.pb
  have cg := cell_of_row w g i _ _ _ hg
  rw [hcur i k hci] at cg
  have c0 := cell_of_row w pd 0 _ _ _ hp
  obtain ⟨n, hn⟩ : ∃ n, ch.length = n := ⟨_, rfl⟩
  have H := Lib.hid h; have Hs := Lib.hid hs; have HX := Lib.hid hX; have Hn := Lib.hid hn
  rw [hn] at hi c0 hp
  clear h hcur hs hX hn hg
  have hb : (decide ((0 : Int) ≤ i) && decide ((i : Int) < n)) = true := by
    rw [Bool.and_eq_true, decide_eq_true_iff, decide_eq_true_iff]; omega
  refine calls_of_wpN Try.func9 (c := Try.f9.body.getD .skip) rfl ?_
  simp only [Try.f9, Option.getD_some, List.size_toArray, List.length_cons, List.length_nil, Nat.reduceAdd, Nat.reduceSub, Array.replicate_succ,
     Array.replicate_zero, List.push_toArray, List.append_toArray, List.nil_append, List.cons_append]
  refine wpN_seq_k fun K1 h1 => wpN_of_wp ?_
  go_wp2_with fail
  refine wpN_seq_k fun K2 h2 => ?_
  refine wpN_seq_k fun K3 h3 => wpN_of_wp ?_
  go_wp2_with fail
  refine (is_any w pd g n cap i _ _ hp).mono ?_
  rintro e w1 ⟨rfl, rfl⟩
  rw [hb]
  go_wp2_with fail
  refine wpN_cond (t := true) rfl ?_
  rw [if_pos rfl]
  refine wpN_seq_k fun K4 h4 => wpN_of_wp ?_
  go_wp2_with fail
  refine (clone_any bs A c w1 hlen Hs.out X HX.out).mono ?_
  rintro e w2 ⟨v', rfl, hv5, hb2⟩
  have hkl : k < w1.heap.size := (Array.getElem?_eq_some_iff.1 hch).1
  have hch2 := (hb2.block k hkl).trans hch
  have R2 := H.out.keep (w' := w2) (fun j hj _ => hb2.block j hj)
  have S2 : Same X w1 w2 := Same.of_below hb2
  have p2 := R2.pb
  have hbv2 : ∀ (j : Nat) (v : Value) (bs' : List Int), buf[j]? = some v → l[j]? = some bs' → Own5 X w2 v bs' := fun j v bs' h1 h2 => (hbv j v bs' h1 h2).keep (fun q cur fr hq _ => hb2.block q (Array.getElem?_eq_some_iff.1 hq).1)
  have c2 := cell_of_row w2 pd 2 _ _ _ p2
  have f2 := frozen_of_row w2 pd 2 _ _ p2
  have HR := Lib.hid (And.intro R2 S2); have Hv := Lib.hid hv5
  clear R2 S2 hb2 hch hp c0 cg p2 hv5
  go_wp2_with fail
  refine wpN_seq_k fun K5 h5 => ?_
  refine wpN_send_room (c := k) (v := v') (z' := .slice none 0 0) rfl ?ex hch2 (by rw [hbl]; exact hf) ?_
  case ex => simp [execOp, scase, Act.eval]
  go_wp2_with fail
  refine wpN_of_wp ?_
  go_wp2_with fail
  go_ret
  obtain ⟨R2, S2⟩ := HR.out
  refine ⟨rfl, S2.trans ⟨rfl, rfl, rfl, by rw [setChan_size]; exact Nat.le_refl _, fun j _ hx => setChan_other _ _ _ _ _ _ _ _ _ (by rintro rfl; exact hxk hx)⟩, R2.setChan hci ?_ ?_⟩
  · rw [Array.size_push, hbl, List.length_append]; rfl
  · intro j v bs' hj hb'
    rw [Array.getElem?_push] at hj
    by_cases hjs : j = buf.size
    · rw [if_pos hjs] at hj
      obtain rfl := Option.some.inj hj
      rw [hjs, hbl, List.getElem?_append_right (Nat.le_refl _), Nat.sub_self] at hb'
      obtain rfl := Option.some.inj hb'
      exact Hv.out
    · rw [if_neg hjs] at hj
      have hjl : j < l.length := by rw [← hbl]; exact (Array.getElem?_eq_some_iff.1 hj).1
      rw [List.getElem?_append_left hjl] at hb'
      exact hbv2 j v bs' hj hb'
end Dk
end Go.Proofs.Ytlhllbnoifppeaa
