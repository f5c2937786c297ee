/- The walk of DockRuns. -/
import Derived.Test.YtlhllbnoifppeaaNew
import Derived.Laws.BytesArg
namespace Go.Proofs.Ytlhllbnoifppeaa
namespace Dk
open Go.RowKit
set_option maxHeartbeats 4000000
set_option maxRecDepth 100000

theorem conv_src (w : World) (A : Option Addr) (bs : List Int) (c : Nat) (hs : Src w A bs) : (convert 25 9 (.slice A bs.length c)).run Try.prog w = .ok (.string (strOfNums bs)) w := by
  cases A with
  | none =>
    cases bs with
    | nil => exact run_convert_bytes_nil w 25 5 Try.underlying25 Try.underlying5 0 c 9 Try.underlying9
    | cons x xs => obtain ⟨_, h, _⟩ := hs (by simp); cases h
  | some a =>
    have hl : (loadCells a bs.length).run Try.prog w = .ok (bs.map (Value.int .u8)).toArray w := by
      have := run_loadCells_list (P := Try.prog) w a (bs.map (Value.int .u8)) (fun j v hv => by
        have hp : 0 < bs.length := by
          cases bs with
          | nil => simp at hv
          | cons x xs => simp
        obtain ⟨ad, h, _, hc⟩ := hs hp
        obtain rfl := Option.some.inj h
        exact hc j v hv)
      simpa using this
    rw [run_convert_bytes_string w 25 9 5 _ bs.length c Try.underlying25 Try.underlying5 Try.underlying9, run_bytesToString w _ bs.length c bs hl, foldl_push_bytes]
    simp [strOfNums, ByteArray.empty, ByteArray.emptyWithCapacity]
    rfl
theorem conv_own {X : Nat → Prop} {w : World} {v : Value} {bs : List Int} (h : Own5 X w v bs) : (convert 25 9 v).run Try.prog w = .ok (.string (strOfNums bs)) w := by
  obtain ⟨A, c, rfl, _⟩ := id h
  exact conv_src w A bs c h.src.2
def Lk : Nat → List (List (List Int))
  | 0 => [[], [], []]
  | 1 => [[], [[0]], []]
  | 2 => [[], [[0], [1]], []]
  | 3 => [[], [[0], [1]], [[2]]]
  | _ => [[], [[0], [1]], [[2], [3]]]
/-- The blocks ahead of b. -/
def Old (b k : Nat) : Prop := k < b
theorem src_new (w : World) (bs : List Int) (fr : Nat × Nat) : Src (w.alloc (.cells (bs.map (Value.int .u8)).toArray 5 fr)) (some ⟨w.heap.size, 0, none⟩) bs := fun _ => by
  refine ⟨_, rfl, by show w.heap.size < _; rw [size_al]; omega, fun j v hv => ?_⟩
  rw [add_flat, Nat.zero_add, cell_of_row _ w.heap.size j _ _ _ (heap_alloc_new _ _)]
  simpa using hv
theorem Rep.alloc {X : Nat → Prop} {w : World} {pd g cap : Nat} {ch : List Nat} {room : Nat} {L : List (List (List Int))} {nx lo : Int} (h : Rep X w pd g cap ch room L nx lo) (o : Obj) : Rep X (w.alloc o) pd g cap ch room L nx lo :=
  h.keep fun k hk _ => Below.heap_alloc w o k hk

/-- The next lane in turn holds something: it is taken from. -/
theorem take_first {X : Nat → Prop} {w : World} {pd g cap : Nat} {ch : List Nat} {room : Nat} {L : List (List (List Int))} {lo : Int} {m : Nat} (h : Rep X w pd g cap ch room L (m + 1) lo) (h0 : L[0]? = some []) (hm : m ≤ 1000) (hn : L.length ≤ 8) (q : Nat)
    (hq : look L.length m 0 = q) {b : List Int} {l : List (List Int)} (hl : L[q]? = some (b :: l)) (hn2 : 0 < L.length - 1) :
    Calls Try.prog 10 #[.pointer (some ⟨pd, 0, none⟩)] w fun e w' => ∃ v, e = .returned (.tuple #[.int .i64 q, v, .bool true]) ∧ Own5 X w' v b ∧ Five w w' ∧ Same X w w' ∧ Rep X w' pd g cap ch room (L.set q l) (q + 1) lo := by
  refine (take_other h h0 hm hn).mono ?_
  rintro e w' ⟨⟨hF, hS⟩, ⟨k, b', l', v, hk, hall, hl', rfl, h5, hR⟩ | ⟨hall, _, _⟩⟩
  · have hk0 : k = 0 := by
      rcases Nat.eq_zero_or_pos k with h | h
      · exact h
      · have := hall 0 h
        rw [hq, hl] at this
        cases this
    subst hk0
    rw [hq] at hl' hR ⊢
    rw [hl] at hl'
    injection hl' with e1
    injection e1 with e2 e3
    subst e2; subst e3
    exact ⟨v, rfl, h5, hF, hS, hR⟩
  · have := hall 0 hn2
    rw [hq, hl] at this
    cases this
def RunRel (w : World) (pd g cap : Nat) (ch : List Nat) (v : Value) (wr : World) : Prop :=
  ∃ k : Nat, k ≤ 4 ∧ v = .int .i64 k ∧ Rep (Old w.heap.size) wr pd g cap ch 2 (Lk k) 1 0 ∧ Same (Old w.heap.size) w wr

theorem runs_any (w : World) : Calls Try.prog 3 #[] w fun e w' => e = .returned (.bool true) ∧ Below w.heap.size w w' := by
  go_enter Try.func3, Try.ntmps3
  go_wp2_with fail
  refine (new_any w 3 2).mono ?_
  rintro e w1 ⟨g, cap, ch, rfl, hb, hR⟩
  have hS : RunRel w w.heap.size g cap ch (.int .i64 0) w1 := ⟨0, by omega, rfl, hR _ (fun k hk => hk), Same.of_below hb⟩
  have HS := Lib.hid hS
  clear hS hR hb
  go_wp2_with fail
  go_loopw [2] (fun v wr => RunRel w w.heap.size g cap ch v wr) (fun v _ => 4 - (intOf v).toNat)
  case atStart => exact HS.out
  case round =>
    clear HS
    obtain ⟨k, hk, rfl, hR, hS⟩ := hrel
    by_cases hlt : k < 4
    · have step : ∀ (l : List (List Int)), (Lk k)[1 + k / 2]? = some l → l.length < 2 → (Lk k).set (1 + k / 2) (l ++ [[(k : Int)]]) = Lk (k + 1) →
          Calls Try.prog 9 #[.pointer (some ⟨w.heap.size, 0, none⟩), .int .i64 ((1 + k / 2 : Nat) : Int), .slice (some ⟨wr.heap.size, 0, none⟩) 1 1] (wr.alloc (.cells #[.int .u8 k] 5)) fun e w' =>
            e = .returned (.bool true) ∧ RunRel w w.heap.size g cap ch (.int .i64 ((k : Int) + 1)) w' := fun l h1 h2 h3 => by
        refine (put_room _ _ _ g cap ch 2 _ 1 0 (hR.alloc _) (fun j hj => by rw [size_al]; exact Nat.lt_of_lt_of_le (Nat.lt_of_lt_of_le hj hS.size) (Nat.le_succ _)) (1 + k / 2) (some ⟨wr.heap.size, 0, none⟩) 1 [(k : Int)] l h1 h2 (by simp) (src_new wr [(k : Int)] (0, 0))).mono ?_
        rintro e w' ⟨rfl, s1, r1⟩
        rw [h3] at r1
        exact ⟨rfl, k + 1, by omega, by simp, r1, (hS.trans (Same.of_below ((Below.refl _ _).alloc (Nat.le_refl _) _))).trans s1⟩
      have step' : Calls Try.prog 9 #[.pointer (some ⟨w.heap.size, 0, none⟩), .int .i64 ((1 + k / 2 : Nat) : Int), .slice (some ⟨wr.heap.size, 0, none⟩) 1 1] (wr.alloc (.cells #[.int .u8 k] 5)) fun e w' =>
            e = .returned (.bool true) ∧ RunRel w w.heap.size g cap ch (.int .i64 ((k : Int) + 1)) w' := by
        have h4 : k = 0 ∨ k = 1 ∨ k = 2 ∨ k = 3 := by omega
        rcases h4 with rfl | rfl | rfl | rfl
        · exact step [] rfl (by simp) rfl
        · exact step [[0]] rfl (by simp) rfl
        · exact step [] rfl (by simp) rfl
        · exact step [[2]] rfl (by simp) rfl
      have St := Lib.hid step'
      clear step step' hR hS
      go_wp2_with fail
      rw [show (1 : Int) + ↑k / 2 = ((1 + k / 2 : Nat) : Int) by omega]
      refine St.out.mono ?_
      rintro e w2 ⟨rfl, hS2⟩
      have HS2 := Lib.hid hS2; clear hS2 St
      go_wp2_with fail
      go_roundw
      case rel => exact HS2.out
      case measure => simp [intOf]; omega
    · have hk4 : k = 4 := by omega
      subst hk4
      have HR := Lib.hid (And.intro hR hS); clear hR hS
      go_wp2_with fail
      refine (take_first (m := 0) HR.out.1 rfl (by omega) (by decide) 1 rfl rfl (by decide)).mono ?_
      rintro e w2 ⟨v2, rfl, _, _, s2, r2⟩
      have H2 := Lib.hid (And.intro r2 (HR.out.2.trans s2)); clear r2 s2 HR
      go_wp2_with fail
      refine (take_first (m := 1) H2.out.1 rfl (by omega) (by decide) 2 rfl rfl (by decide)).mono ?_
      rintro e w3 ⟨v3, rfl, _, _, s3, r3⟩
      have H3 := Lib.hid (And.intro r3 (H2.out.2.trans s3)); clear r3 s3 H2
      go_wp2_with fail
      refine (take_first (m := 2) H3.out.1 rfl (by omega) (by decide) 1 rfl rfl (by decide)).mono ?_
      rintro e w4 ⟨v4, rfl, o4, _, s4, r4⟩
      have H4 := Lib.hid (And.intro r4 (H3.out.2.trans s4)); have O4 := Lib.hid o4; clear r4 s4 H3 o4
      have hcv : (convert 25 9 v4).run Try.prog w4 = .ok (.string { data := #[1] }) w4 := conv_own O4.out
      go_wp2_with fail
      refine (len_any H4.out.1 2).mono ?_
      rintro e w5 ⟨rfl, rfl⟩
      rw [show (if (0 : Int) ≤ 2 then (((((Lk 4).set 1 [[1]]).set 2 [[3]]).set 1 []).getD (2 : Int).toNat []).length else 0 : Int) = 1 from rfl]
      go_wp2_with fail
      refine (lost_any H4.out.1).mono ?_
      rintro e w6 ⟨rfl, rfl⟩
      go_wp2_with fail
      go_ret
      exact ⟨rfl, H4.out.2.below (Nat.le_refl _) (fun k hk => hk)⟩
end Dk
end Go.Proofs.Ytlhllbnoifppeaa
