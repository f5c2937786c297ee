/- The walk of DockKeeps. -/
import Derived.Test.YtlhllbnoifppeaaRuns
namespace Go.Proofs.Ytlhllbnoifppeaa
namespace Dk
open Go.RowKit
set_option maxHeartbeats 4000000
set_option maxRecDepth 100000

/-- The loop's state: the law's own bytes in block k0, the dock. -/
def KeepRel (w : World) (k0 n : Nat) (pd g cap : Nat) (ch : List Nat) (L : List (List (List Int))) (v : Value) (wr : World) : Prop :=
  ∃ i : Nat, i ≤ n ∧ v = .int .i64 i ∧ Rep (fun k => Old w.heap.size k ∨ k = k0) wr pd g cap ch 3 L 1 0 ∧ Same (Old w.heap.size) w wr ∧
    ∃ cur, wr.heap[k0]? = some (.cells cur 5 (0, 0)) ∧ ∀ j, j < n → ∃ x : Int, cur[j]? = some (.int .u8 x)

theorem keeps_any (w : World) (A : Option Addr) (bs : List Int) (c : Nat) (by_ : Int) (hbl : bs.length ≤ 9223372036854775807) (hs : Src w A bs) :
    Calls Try.prog 7 #[.slice A bs.length c, .int .u8 by_] w fun e w' => e = .returned (.bool true) ∧ Below w.heap.size w w' := by
  have H3 := Lib.hid (runs_any w)
  have Hs := Lib.hid hs
  clear hs
  by_cases h0 : bs.length = 0
  · go_enter Try.func7, Try.ntmps7
    go_wp2_with fail
    refine H3.out.mono ?_
    rintro e w1 ⟨rfl, hb⟩
    have Hb := Lib.hid hb; clear hb
    go_wp2_with fail
    go_ret
    exact ⟨rfl, Hb.out⟩
  · by_cases h2 : 200 < bs.length
    · go_enter Try.func7, Try.ntmps7
      go_wp2_with fail
      refine H3.out.mono ?_
      rintro e w1 ⟨rfl, hb⟩
      have Hb := Lib.hid hb; clear hb
      go_wp2_with fail
      go_ret
      exact ⟨rfl, Hb.out⟩
    · clear H3
      go_enter Try.func7, Try.ntmps7
      go_wp2_with fail
      · exfalso
        rename_i hc _ _ _ _
        rcases hc with hc | hc
        · have := eq_of_beq hc; omega
        · omega
      refine (new_any w 2 3).mono ?_
      rintro e w1 ⟨g, cap, ch, rfl, hb1, hR1⟩
      obtain ⟨ad, rfl⟩ : ∃ ad, A = some ad := by
        obtain ⟨ad, h, _⟩ := Hs.out (by omega)
        exact ⟨ad, h⟩
      have hs1 : Src w1 (some ad) bs := fun hp => by
        obtain ⟨ad', e, hl, hc⟩ := Hs.out hp
        exact ⟨ad', e, Nat.lt_of_lt_of_le hl hb1.size, fun j v hv => (hb1.cell (p := ad'.add j) (by rw [add_block]; exact hl)).trans (hc j v hv)⟩
      obtain ⟨v', w2, hr, ho, hg2⟩ := append_src w1 w1.heap.size (.slice none 0 0) 0 [] (World.ownsRow_nil _ _ _ _) (some ad) bs c hs1 (by simp) (by omega) (Nat.le_refl _)
      rw [Nat.zero_add, List.nil_append] at ho
      obtain ⟨hml, ⟨_, hx⟩ | ⟨k0, cap0, cur, rfl, hk0, hcur, _, _, _, htake⟩⟩ := id ho
      · omega
      have hb2 : Below w1.heap.size w1 w2 := (Below.refl w1.heap.size w1).grown hg2 (Nat.le_refl _) (fun k hk => by simp [Value.ownBlock] at hk)
      have hR2 : Rep (fun k => Old w.heap.size k ∨ k = k0) w2 w.heap.size g cap ch 3 [[], []] 1 0 := ((hR1 _ (fun k hk => hk)).more (fun k hk hy => by
        rcases hy with h | h
        · exact h
        · omega)).keep (fun k hk _ => hb2.block k hk)
      have hS2 : Same (Old w.heap.size) w w2 := (Same.of_below hb1).trans (Same.of_below hb2)
      have hsz2 : k0 < w2.heap.size := (Array.getElem?_eq_some_iff.1 hcur).1
      have hs2 : Src w2 (some ⟨k0, 0, none⟩) bs := fun hp => by
        refine ⟨_, rfl, hsz2, fun j v hv => ?_⟩
        rw [add_flat, cell_of_row w2 k0 _ _ _ _ hcur, Nat.zero_add]
        rw [show bs.map (Value.int .u8) = mapB bs from rfl, ← htake, List.getElem?_take] at hv
        split at hv
        · simpa using hv
        · cases hv
      have H2 := Lib.hid (And.intro hR2 hS2); have HS := Lib.hid hs2; have HC := Lib.hid (And.intro hcur htake); have Hg := Lib.hid (And.intro hb1 hg2)
      clear hR2 hS2 hs2 hcur htake hR1 hb1 hs1 hg2 hb2 ho hml
      go_wp2_with (at_builtin; refine wpList_append_run (o := ⟨some 29, .call { callee := .builtin .append, args := #[.const (.slice none 0 0), .tmp 28], argTypes := #[25, 25] }, _, _, _, _⟩) rfl _ _ 25 rfl _ _ _ w2 ?hs1 ?hx1 hr ?hk1; (case hs1 => rfl); (case hx1 => rfl))
      have hk0o : w.heap.size ≤ k0 := Nat.le_trans Hg.out.1.size hk0
      have hoX : ∀ W : World, w.heap.size ≤ W.heap.size → k0 < W.heap.size → ∀ k, (Old w.heap.size k ∨ k = k0) → k < W.heap.size := fun W h1 h2 k hk => by
        rcases hk with h | h
        · exact Nat.lt_of_lt_of_le h h1
        · omega
      refine (put_room _ w2 w.heap.size g cap ch 3 _ 1 0 H2.out.1 (hoX w2 H2.out.2.size hsz2) 1 (some ⟨k0, 0, none⟩) cap0 bs [] rfl (by simp) (by omega) HS.out).mono ?_
      rintro e w3 ⟨rfl, s3, r3⟩
      have rel3 : KeepRel w k0 bs.length w.heap.size g cap ch [[], [bs]] (.int .i64 0) w3 := by
        refine ⟨0, by omega, rfl, r3, H2.out.2.trans (s3.mono fun k hk => .inl hk), cur, (s3.block k0 hsz2 (.inr rfl)).trans HC.out.1, fun j hj => ?_⟩
        have h1 : (mapB bs)[j]? = some (.int .u8 bs[j]) := by simp [mapB, hj]
        rw [← HC.out.2, List.getElem?_take] at h1
        split at h1
        · exact ⟨_, by simpa using h1⟩
        · cases h1
      have H3 := Lib.hid rel3
      clear H2 HS HC r3 s3 rel3
      go_wp2_with fail
      go_loopw [8] (fun v wr => KeepRel w k0 bs.length w.heap.size g cap ch [[], [bs]] v wr) (fun v _ => bs.length - (intOf v).toNat)
      case atStart => exact H3.out
      case round =>
        clear H3
        obtain ⟨i, hi, rfl, hR, hS, cur3, hc3, hv3⟩ := hrel
        by_cases hlt : i < bs.length
        · obtain ⟨x, hx⟩ := hv3 i hlt
          have ci := cell_of_row wr k0 i _ _ _ hc3
          have fi := frozen_of_row wr k0 i _ _ hc3
          rw [hx] at ci
          have H4 := Lib.hid (And.intro hR (And.intro hS hv3)); have Hc3 := Lib.hid hc3
          clear hR hS hv3 hc3
          go_wp2_with fail
          have hne : ∀ k, k ≠ k0 → (wr.setCell ⟨k0, i, none⟩ (.int .u8 (bits .xor .u8 x by_))).heap[k]? = wr.heap[k]? := fun k hk => heap_setCell_other _ _ _ _ (fun e => hk e)
          refine ⟨⟨i + 1, by omega, by simp, H4.out.1.keep (fun k hk hx => hne k (fun e => hx (.inr e))), H4.out.2.1.trans ⟨rfl, rfl, rfl, by simp, fun k _ hk => hne k (fun e => ?_)⟩, cur3.setIfInBounds i (.int .u8 (bits .xor .u8 x by_)), ?_, fun j hj => ?_⟩, by simp [intOf]; omega⟩
          · have := hk0o; unfold Old at hk; omega
          · rw [heap_setCell_same _ _ _ _ _ _ Hc3.out]
          · rw [Array.getElem?_setIfInBounds]
            by_cases hij : i = j
            · subst hij
              have := (Array.getElem?_eq_some_iff.1 hx).1
              simp [this]
            · rw [if_neg hij]
              exact H4.out.2.2 j hj
        · have hin : i = bs.length := by omega
          subst hin
          have hsr : Src wr (some ad) bs := fun hp => by
            obtain ⟨ad', e, hl, hc⟩ := Hs.out hp
            refine ⟨ad', e, Nat.lt_of_lt_of_le hl hS.size, fun j v hv => ?_⟩
            rw [← hc j v hv]
            exact (hS.below (B := w.heap.size) (Nat.le_refl _) (fun k hk => hk)).cell (p := ad'.add j) (by rw [add_block]; exact hl)
          have H4 := Lib.hid (And.intro hR hS); have HSr := Lib.hid hsr
          clear hR hS hv3 hc3 hsr
          go_wp2_with fail
          have R4 := H4.out.1.more (Y := Old w.heap.size) (fun k _ hk => .inl hk)
          refine (put_room _ wr w.heap.size g cap ch 3 _ 1 0 R4 (fun k hk => Nat.lt_of_lt_of_le hk H4.out.2.size) 1 (some ad) c bs [bs] rfl (by simp) (by omega) HSr.out).mono ?_
          rintro e w5 ⟨rfl, s5, r5⟩
          have H5 := Lib.hid (And.intro r5 (H4.out.2.trans s5))
          clear R4 s5 r5 H4 HSr
          go_wp2_with fail
          refine (take_first (m := 0) H5.out.1 rfl (by omega) (by simp) 1 (by simp [look]) rfl (by simp)).mono ?_
          rintro e w6 ⟨v6, rfl, o6, f6, s6, r6⟩
          have H6 := Lib.hid (And.intro r6 (H5.out.2.trans s6)); have O6 := Lib.hid o6; clear o6 f6 s6 r6 H5
          go_wp2_with fail
          refine (take_first (m := 1) H6.out.1 rfl (by omega) (by simp) 1 (by simp [look]) rfl (by simp)).mono ?_
          rintro e w7 ⟨v7, rfl, o7, f7, s7, r7⟩
          have H7 := Lib.hid (And.intro r7 (H6.out.2.trans s7))
          have cv6 : (convert 25 9 v6).run Try.prog w7 = .ok (.string (strOfNums bs)) w7 := conv_own (O6.out.five f7)
          have cv7 : (convert 25 9 v7).run Try.prog w7 = .ok (.string (strOfNums bs)) w7 := conv_own o7
          have cvr : (convert 25 9 (.slice (some ad) bs.length c)).run Try.prog w7 = .ok (.string (strOfNums bs)) w7 := conv_src _ _ _ _ (fun hp => by
            obtain ⟨ad', e, hl, hc⟩ := Hs.out hp
            refine ⟨ad', e, Nat.lt_of_lt_of_le hl H7.out.2.size, fun j v hv => ?_⟩
            rw [← hc j v hv]
            exact (H7.out.2.below (B := w.heap.size) (Nat.le_refl _) (fun k hk => hk)).cell (p := ad'.add j) (by rw [add_block]; exact hl))
          clear O6 o7 f7 s7 r7 H6
          go_wp2_with fail
          refine (len_any H7.out.1 1).mono ?_
          rintro e w8 ⟨rfl, rfl⟩
          simp only [List.set_cons_succ, List.set_cons_zero, Int.toNat_one, List.getD_cons_succ, List.getD_cons_zero, List.length_nil]
          go_wp2_with fail
          refine (runs_any w8).mono ?_
          rintro e w9 ⟨rfl, hb9⟩
          have H9 := Lib.hid hb9; clear hb9
          go_wp2_with fail
          go_ret
          exact ⟨rfl, (H7.out.2.below (Nat.le_refl _) (fun k hk => hk)).trans (H9.out.mono H7.out.2.size)⟩
end Dk
end Go.Proofs.Ytlhllbnoifppeaa
