/- The plain law of DockFair: of the lanes that wait, the one looked at first was not taken from later than another. No program in sight. -/
import Derived.Test.YtlhllbnoifppeaaTake
namespace Go.Proofs.Ytlhllbnoifppeaa
namespace Dk
set_option maxHeartbeats 1000000
set_option linter.unusedVariables false

theorem look_look (n m k j : Nat) : look n (look n m k) j = look n m (k + 1 + j) := by
  unfold look
  have e : 1 + (m + k) % (n - 1) + j = (m + k) % (n - 1) + (1 + j) := by omega
  have e2 : m + (k + 1 + j) = (m + k) + (1 + j) := by omega
  rw [e, e2, Nat.mod_add_mod]
theorem look_wrap (n m j : Nat) : look n m (j + (n - 1)) = look n m j := by
  unfold look
  rw [← Nat.add_assoc, Nat.add_mod_right]
theorem look_inj {n m a b : Nat} (hab : a < b) (hb : b < n - 1) : look n m a ≠ look n m b := fun e => by
  unfold look at e
  have e1 : (m + b) % (n - 1) = (m + a) % (n - 1) := by omega
  have e2 := Nat.sub_mod_eq_zero_of_mod_eq e1
  have e3 : m + b - (m + a) = b - a := by omega
  rw [e3, Nat.mod_eq_of_lt (by omega)] at e2
  omega
theorem look_lt {n m j : Nat} (hn : 2 ≤ n) : 1 ≤ look n m j ∧ look n m j < n := by
  unfold look
  have := Nat.mod_lt (m + j) (show 0 < n - 1 by omega)
  omega
theorem look_onto {n m p : Nat} (hn : 2 ≤ n) (hp : 1 ≤ p) (hp2 : p < n) : ∃ j, j < n - 1 ∧ look n m j = p := by
  have hq : 0 < n - 1 := by omega
  refine ⟨(p - 1 + (n - 1 - m % (n - 1))) % (n - 1), Nat.mod_lt _ hq, ?_⟩
  unfold look
  have hm := Nat.mod_lt m hq
  rw [Nat.add_mod_mod, ← Nat.mod_add_mod]
  have e : m % (n - 1) + (p - 1 + (n - 1 - m % (n - 1))) = p - 1 + (n - 1) := by omega
  rw [e, Nat.add_mod_right, Nat.mod_eq_of_lt (by omega)]
  omega
/-- Lane p waits. -/
def Waits (L : List (List (List Int))) (p : Nat) : Prop := ∃ b l, L[p]? = some (b :: l)
/-- S: when each lane was taken from last; i: the next time. -/
def Fair (n m : Nat) (L : List (List (List Int))) (S : Nat → Nat) (i : Nat) : Prop :=
  (∀ p, S p < i) ∧ ∀ j j', j < j' → j' < n - 1 → Waits L (look n m j) → Waits L (look n m j') → S (look n m j) ≤ S (look n m j')
theorem fair_start (n m : Nat) (L : List (List (List Int))) : Fair n m L (fun _ => 0) 1 := ⟨fun _ => Nat.zero_lt_one, fun _ _ _ _ _ _ => Nat.le_refl _⟩
theorem fair_first {n m : Nat} {L : List (List (List Int))} {S : Nat → Nat} {i k : Nat} (hn : 2 ≤ n) (h : Fair n m L S i) (hk : k < n - 1) (hall : ∀ j, j < k → L[look n m j]? = some []) (hl : Waits L (look n m k))
    {p : Nat} (hp1 : 1 ≤ p) (hp2 : p < n) (hpl : Waits L p) : S (look n m k) ≤ S p := by
  obtain ⟨j, hj, rfl⟩ := look_onto (m := m) hn hp1 hp2
  rcases Nat.lt_trichotomy k j with h1 | rfl | h1
  · exact h.2 k j h1 hj hl hpl
  · exact Nat.le_refl _
  · obtain ⟨b, l, hb⟩ := hpl
    rw [hall j h1] at hb
    cases hb
def upd (S : Nat → Nat) (p i : Nat) : Nat → Nat := fun x => if x = p then i else S x
theorem waits_set {L : List (List (List Int))} {p q : Nat} {l : List (List Int)} (h : Waits (L.set q l) p) (hne : p ≠ q) : Waits L p := by
  obtain ⟨b, l', hb⟩ := h
  rw [List.getElem?_set_ne (Ne.symm hne)] at hb
  exact ⟨b, l', hb⟩
theorem fair_next {n m : Nat} {L : List (List (List Int))} {S : Nat → Nat} {i k : Nat} (hn : 2 ≤ n) (h : Fair n m L S i) (hk : k < n - 1) (hall : ∀ j, j < k → L[look n m j]? = some []) {b : List Int} {l : List (List Int)}
    (hl : L[look n m k]? = some (b :: l)) : Fair n (look n m k) (L.set (look n m k) l) (upd S (look n m k) i) (i + 1) := by
  refine ⟨fun p => ?_, fun j j' hj hj' h1 h2 => ?_⟩
  · unfold upd
    split
    · omega
    · have := h.1 p; omega
  · by_cases hlast : j' = n - 1 - 1
    · have e : look n (look n m k) j' = look n m k := by
        rw [look_look, show k + 1 + j' = k + (n - 1) by omega, look_wrap]
      rw [e]
      have e2 : upd S (look n m k) i (look n m k) = i := by simp [upd]
      rw [e2]
      unfold upd
      split
      · omega
      · exact Nat.le_of_lt (h.1 _)
    · have skip : ∀ t, t < n - 1 - 1 → Waits (L.set (look n m k) l) (look n (look n m k) t) → k + 1 + t < n - 1 := fun t ht hw => by
        rcases Nat.lt_or_ge (k + 1 + t) (n - 1) with h | h
        · exact h
        · have e : look n (look n m k) t = look n m (k + 1 + t - (n - 1)) := by
            rw [look_look, ← look_wrap n m (k + 1 + t - (n - 1))]
            congr 1; omega
          have h0 := hall (k + 1 + t - (n - 1)) (by omega)
          rw [e] at hw
          obtain ⟨b', l', hb'⟩ := waits_set hw (fun e' => by rw [e', hl] at h0; cases h0)
          rw [h0] at hb'
          cases hb'
      have s2 := skip j' (by omega) h2
      have s1 := skip j (by omega) h1
      have n1 : look n m (k + 1 + j) ≠ look n m k := (look_inj (by omega) s1).symm
      have n2 : look n m (k + 1 + j') ≠ look n m k := (look_inj (by omega) s2).symm
      rw [look_look] at h1 h2 ⊢
      rw [look_look]
      have := h.2 (k + 1 + j) (k + 1 + j') (by omega) s2 (waits_set h1 n1) (waits_set h2 n2)
      unfold upd
      rw [if_neg n1, if_neg n2]
      exact this
end Dk
end Go.Proofs.Ytlhllbnoifppeaa
