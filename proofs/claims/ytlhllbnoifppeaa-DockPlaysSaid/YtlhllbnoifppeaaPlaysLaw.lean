/- The dock and the reference's dock, step by step: what each call does to both. -/
import Derived.Test.YtlhllbnoifppeaaRtake
import Derived.Test.YtlhllbnoifppeaaRuns
namespace Go.Proofs.Ytlhllbnoifppeaa
namespace Dk
open Go.RowKit
set_option maxHeartbeats 2000000
set_option maxRecDepth 100000
set_option linter.unusedVariables false

theorem Bts.conv {X : Nat → Prop} {w : World} {v : Value} {bs : List Int} (h : Bts X w v bs) : (convert 25 9 v).run Try.prog w = .ok (.string (strOfNums bs)) w := by
  obtain ⟨A, c, rfl, h2⟩ := h
  refine conv_src w A bs c (fun hp => ?_)
  obtain ⟨g, o, cur, fr, rfl, _, hg, hc⟩ := h2 hp
  refine ⟨_, rfl, (Array.getElem?_eq_some_iff.1 hg).1, fun j v hv => ?_⟩
  rw [add_flat, cell_of_row w g (o + j) _ _ _ hg]
  exact hc j v hv
/-- Which lane the dock takes from, and where it looks next. -/
def FndD (L : List (List (List Int))) (m q m' : Nat) : Prop :=
  (q = 0 ∧ m' = m) ∨ (L[0]? = some [] ∧ ∃ k, k < L.length - 1 ∧ (∀ j, j < k → L[look L.length m j]? = some []) ∧ q = look L.length m k ∧ m' = q)
section
variable {X : Nat → Prop} {w : World} {pd g cap : Nat} {ch : List Nat} {room : Nat} {L : List (List (List Int))} {lo : Int}
theorem dtake_any {m : Nat} (h : Rep X w pd g cap ch room L (m + 1) lo) (hn1 : 1 ≤ L.length) (hn8 : L.length ≤ 8) (hm : m ≤ 8) :
    Calls Try.prog 10 #[.pointer (some ⟨pd, 0, none⟩)] w fun e w' => (Five w w' ∧ Same X w w') ∧
      ((∃ (q m' : Nat) (b : List Int) (l : List (List Int)) (v : Value), L[q]? = some (b :: l) ∧ FndD L m q m' ∧ m' ≤ 8 ∧ e = .returned (.tuple #[.int .i64 q, v, .bool true]) ∧ Own5 X w' v b ∧ Rep X w' pd g cap ch room (L.set q l) (m' + 1) lo) ∨
      (L[0]? = some [] ∧ (∀ j, j < L.length - 1 → L[look L.length m j]? = some []) ∧ e = .returned (.tuple #[.int .i64 (-1), .slice none 0 0, .bool false]) ∧ Rep X w' pd g cap ch room L (m + 1) lo)) := by
  obtain ⟨l0, hl0⟩ : ∃ l0, L[0]? = some l0 := ⟨_, List.getElem?_eq_getElem (by omega)⟩
  cases l0 with
  | cons b l =>
    refine (take_zero h hl0).mono ?_
    rintro e w' ⟨v, rfl, o, f, s, r⟩
    exact ⟨⟨f, s⟩, .inl ⟨0, m, b, l, v, hl0, .inl ⟨rfl, rfl⟩, hm, rfl, o, r⟩⟩
  | nil =>
    refine (take_other h hl0 (by omega) hn8).mono ?_
    rintro e w' ⟨fs, ⟨k, b, l, v, hk, hall, hl, rfl, o, r⟩ | ⟨hall, rfl, r⟩⟩
    · have := look_lt (n := L.length) (m := m) (j := k) (by omega)
      exact ⟨fs, .inl ⟨_, _, b, l, v, hl, .inr ⟨hl0, k, hk, hall, rfl, rfl⟩, by omega, rfl, o, r⟩⟩
    · exact ⟨fs, .inr ⟨hl0, hall, rfl, r⟩⟩
end
theorem look_mod {n m m2 : Nat} (h : m % (n - 1) = m2 % (n - 1)) (j : Nat) : look n m j = look n m2 j := by
  unfold look
  rw [Nat.add_mod, h, ← Nat.add_mod]
theorem fnd_same {L : List (List (List Int))} {m m2 q q2 m' at' : Nat} {b b2 : List Int} {l l2 : List (List Int)} (hmm : m % (L.length - 1) = m2 % (L.length - 1)) (h : FndD L m q m') (h2 : Fnd L m2 q2 at') (hl : L[q]? = some (b :: l)) (hl2 : L[q2]? = some (b2 :: l2)) :
    q = q2 ∧ m' % (L.length - 1) = at' % (L.length - 1) := by
  rcases h with ⟨rfl, rfl⟩ | ⟨h0, k, hk, hall, rfl, rfl⟩
  · rcases h2 with ⟨rfl, rfl⟩ | ⟨h0, _⟩
    · exact ⟨rfl, hmm⟩
    · rw [hl] at h0; cases h0
  · rcases h2 with ⟨rfl, rfl⟩ | ⟨_, k2, hk2, hall2, rfl, rfl⟩
    · rw [hl2] at h0; cases h0
    · have e : k = k2 := by
        rcases Nat.lt_trichotomy k k2 with h | h | h
        · have := hall2 k h
          rw [← look_mod hmm, hl] at this; cases this
        · exact h
        · have := hall k2 h
          rw [look_mod hmm, hl2] at this; cases this
      subst e
      rw [look_mod hmm]
      exact ⟨rfl, by rw [Nat.mod_mod]⟩
theorem fnd_none {L : List (List (List Int))} {m m2 q m' : Nat} {b : List Int} {l : List (List Int)} (hmm : m % (L.length - 1) = m2 % (L.length - 1)) (h : FndD L m q m') (hl : L[q]? = some (b :: l)) (h0 : L[0]? = some []) (hall : ∀ j, j < L.length - 1 → L[look L.length m2 j]? = some []) : False := by
  rcases h with ⟨rfl, rfl⟩ | ⟨_, k, hk, _, rfl, rfl⟩
  · rw [hl] at h0; cases h0
  · have := hall k hk
    rw [← look_mod hmm, hl] at this; cases this
theorem fnd_none2 {L : List (List (List Int))} {m m2 q m' : Nat} {b : List Int} {l : List (List Int)} (hmm : m % (L.length - 1) = m2 % (L.length - 1)) (h : Fnd L m2 q m') (hl : L[q]? = some (b :: l)) (h0 : L[0]? = some []) (hall : ∀ j, j < L.length - 1 → L[look L.length m j]? = some []) : False := by
  rcases h with ⟨rfl, rfl⟩ | ⟨_, k, hk, _, rfl, rfl⟩
  · rw [hl] at h0; cases h0
  · have := hall k hk
    rw [look_mod hmm, hl] at this; cases this
/-- Does a Put go in; what it leaves. -/
def okP (room : Nat) (L : List (List (List Int))) (i : Int) : Bool := decide (0 ≤ i) && decide (i < L.length) && decide ((L.getD i.toNat []).length < room)
def putL (room : Nat) (L : List (List (List Int))) (i : Int) (bs : List Int) : List (List (List Int)) := if okP room L i then L.set i.toNat (L.getD i.toNat [] ++ [bs]) else L
def putLost (room : Nat) (L : List (List (List Int))) (i : Int) (lo : Nat) : Nat := if okP room L i then lo else lo + 1
theorem putL_len (room : Nat) (L : List (List (List Int))) (i : Int) (bs : List Int) : (putL room L i bs).length = L.length := by
  unfold putL
  split <;> simp
theorem putLost_le (room : Nat) (L : List (List (List Int))) (i : Int) (lo : Nat) : putLost room L i lo ≤ lo + 1 := by
  unfold putLost
  split <;> omega
theorem dput_any {X : Nat → Prop} {w : World} {pd g cap : Nat} {ch : List Nat} {room : Nat} {L : List (List (List Int))} {nx : Int} {lo : Nat} (h : Rep X w pd g cap ch room L nx lo) (hX : ∀ k, X k → k < w.heap.size) (i : Int) (A : Option Addr) (c : Nat) (bs : List Int)
    (hlen : bs.length ≤ 1099511627776) (hs : Src w A bs) (hlo2 : lo < 1000) :
    Calls Try.prog 9 #[.pointer (some ⟨pd, 0, none⟩), .int .i64 i, .slice A bs.length c] w fun e w' => e = .returned (.bool (okP room L i)) ∧ Same X w w' ∧ Rep X w' pd g cap ch room (putL room L i bs) nx (putLost room L i lo : Nat) := by
  by_cases hi : 0 ≤ i ∧ i < L.length
  · obtain ⟨j, rfl⟩ : ∃ j : Nat, i = j := ⟨i.toNat, by omega⟩
    have hj : j < L.length := by omega
    refine (put_in X w pd g cap ch room L nx lo h hX j A c bs hj hlen hs (by omega) (by omega)).mono ?_
    rintro e w' ⟨rfl, s, r⟩
    have e1 : okP room L (j : Int) = decide ((L.getD j []).length < room) := by
      unfold okP
      rw [decide_eq_true hi.1, decide_eq_true hi.2]; rfl
    refine ⟨by rw [e1], s, ?_⟩
    unfold putL putLost
    rw [e1]
    unfold laneIn at r
    by_cases hf : (L.getD j []).length < room
    · rw [if_pos hf, if_pos hf] at r
      rw [decide_eq_true hf]
      exact r
    · rw [if_neg hf, if_neg hf] at r
      rw [decide_eq_false hf]
      simpa using r
  · refine (put_out X w pd g cap ch room L nx lo h i A c bs (by rw [← h.len]; exact hi) (by omega) (by omega)).mono ?_
    rintro e w' ⟨rfl, s, r⟩
    have e1 : okP room L i = false := by
      unfold okP
      rw [Bool.and_eq_false_iff]
      left
      rw [Bool.and_eq_false_iff, decide_eq_false_iff_not, decide_eq_false_iff_not]
      omega
    refine ⟨by rw [e1], s, ?_⟩
    unfold putL putLost
    rw [e1]
    simpa using r
theorem rput_any {X : Nat → Prop} {w : World} {pr gl room : Nat} {L : List (List (List Int))} {at_ : Int} {lo : Nat} (h : RRep X w pr gl room L at_ lo) (i : Int) (A : Option Addr) (c : Nat) (hAc : A = none → c = 0) (bs : List Int)
    (hbl : bs.length ≤ 1000000) (hs : Src w A bs) (hr8 : room ≤ 1000) (hlo2 : lo < 1000) :
    Calls Try.prog 15 #[.pointer (some ⟨pr, 0, none⟩), .int .i64 i, .slice A bs.length c] w fun e w' => e = .returned (.bool (okP room L i)) ∧ RSame pr gl w w' ∧ RRep (fun k => X k ∨ (w.heap.size ≤ k ∧ k < w'.heap.size)) w' pr gl room (putL room L i bs) at_ (putLost room L i lo : Nat) := by
  by_cases hi : 0 ≤ i ∧ i < L.length
  · obtain ⟨j, rfl⟩ : ∃ j : Nat, i = j := ⟨i.toNat, by omega⟩
    have hj : j < L.length := by omega
    have hl : L[j]? = some (L.getD j []) := by rw [List.getElem?_eq_getElem hj, List.getD_eq_getElem?_getD, List.getElem?_eq_getElem hj]; rfl
    have e1 : okP room L (j : Int) = decide ((L.getD j []).length < room) := by
      unfold okP
      rw [decide_eq_true hi.1, decide_eq_true hi.2]; rfl
    unfold putL putLost
    rw [e1]
    by_cases hf : (L.getD j []).length < room
    · rw [decide_eq_true hf]
      exact rput_room h j A bs c hAc hs hl hf hr8 hbl
    · rw [decide_eq_false hf]
      refine (rput_full h j A bs c hl (by omega) (by omega) (by omega)).mono ?_
      rintro e w' ⟨rfl, s, r⟩
      exact ⟨rfl, s, by simpa using r.keep (fun k hk => .inl hk) (fun _ _ _ => rfl)⟩
  · have e1 : okP room L i = false := by
      unfold okP
      rw [Bool.and_eq_false_iff]
      left
      rw [Bool.and_eq_false_iff, decide_eq_false_iff_not, decide_eq_false_iff_not]
      omega
    unfold putL putLost
    rw [e1]
    refine (rput_out h i A bs c hi (by omega) (by omega)).mono ?_
    rintro e w' ⟨rfl, s, r⟩
    exact ⟨rfl, s, by simpa using r.keep (fun k hk => .inl hk) (fun _ _ _ => rfl)⟩
end Dk
end Go.Proofs.Ytlhllbnoifppeaa
