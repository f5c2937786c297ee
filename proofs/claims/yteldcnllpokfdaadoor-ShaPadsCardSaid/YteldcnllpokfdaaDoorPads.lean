/- The walk of ShaPads: whatever bytes come in, the law returns true, and what was there before the call is as it was. Conditions: the bytes are read at the slice that came in; each is from 0 to 255; the table of keys holds what its initialiser lays. -/
import Derived.Test.YteldcnllpokfdaaDoorRuns
import Derived.Laws.BytesArg
namespace Go.Proofs.YteldcnllpokfdaaDoor
namespace Sha
open Go.RowKit
set_option maxHeartbeats 4000000
set_option maxRecDepth 1000000

theorem conv_src (w : World) (A : Option Addr) (bs : List Int) (c : Nat) (hs : Src w A bs) : (convert 24 9 (.slice A bs.length c)).run Tryd.prog w = .ok (.string (strOfNums bs)) w := by
  cases A with
  | none =>
    cases bs with
    | nil => exact run_convert_bytes_nil w 24 5 Tryd.underlying24 Tryd.underlying5 0 c 9 Tryd.underlying9
    | cons x xs => obtain ⟨_, h, _⟩ := hs (by simp); cases h
  | some a =>
    have hl : (loadCells a bs.length).run Tryd.prog w = .ok (bs.map (Value.int .u8)).toArray w := by
      have := run_loadCells_list (P := Tryd.prog) w a (bs.map (Value.int .u8)) (fun j v hv => by
        have hp : 0 < bs.length := by
          cases bs with
          | nil => simp at hv
          | cons x xs => simp
        obtain ⟨ad, h, _, hc⟩ := hs hp
        obtain rfl := Option.some.inj h
        exact hc j v hv)
      simpa using this
    rw [run_convert_bytes_string w 24 9 5 _ bs.length c Tryd.underlying24 Tryd.underlying5 Tryd.underlying9, run_bytesToString w _ bs.length c bs hl, foldl_push_bytes]
    simp [strOfNums, ByteArray.empty, ByteArray.emptyWithCapacity]
    rfl
theorem src_part (w : World) (g : Nat) (t : TypeId) (fr : Nat × Nat) (p : List Int) (o m : Nat) (hg : w.heap[g]? = some (.cells (bytes p) t fr)) : Src w (some ⟨g, o, none⟩) ((p.drop o).take m) := fun _ =>
  ⟨_, rfl, (Array.getElem?_eq_some_iff.1 hg).1, fun j v hv => cell_part w g t fr p o m hg j v hv⟩
theorem padF_take (bs : List Int) : (padF bs).take bs.length = bs := by
  unfold padF padk padz
  simp [List.append_assoc]
theorem padF_128 (bs : List Int) : (padF bs).getD bs.length 0 = 128 := by
  unfold padF padk padz
  simp [List.append_assoc, List.getD_eq_getElem?_getD]
theorem padF_zero (bs : List Int) (i : Nat) (h1 : bs.length < i) (h2 : i < pt (bs.length + 1)) : (padF bs).getD i 0 = 0 := by
  unfold padF padk padz
  rw [List.append_assoc, List.getD_eq_getElem?_getD, List.getElem?_append_right (by omega), List.cons_append]
  obtain ⟨j, hj⟩ : ∃ j, i - bs.length = j + 1 := ⟨i - bs.length - 1, by omega⟩
  rw [hj, List.getElem?_cons_succ, List.getElem?_append_left (by simp; omega), List.getElem?_replicate, if_pos (by omega)]
  rfl
theorem padF_dig (bs : List Int) (k : Nat) (hk : k < 8) : (padF bs).getD (pt (bs.length + 1) + k) 0 = dig (bits8 bs) k := by
  unfold padF padk
  rw [List.getD_eq_getElem?_getD, List.getElem?_append_right (by rw [padz_length]; omega), padz_length, Nat.add_sub_cancel_left, List.getElem?_append_left (by simp; exact hk)]
  simp [hk]
def acc (d : Int) (k : Nat) : Int := d / 2 ^ (64 - 8 * k)
theorem acc_step (d : Int) (k : Nat) (hk : k < 8) : acc d k * 256 + dig d k = acc d (k + 1) := by
  unfold acc dig
  have e : (2 : Int) ^ (64 - 8 * k) = 2 ^ (56 - 8 * k) * 256 := by
    rw [show 64 - 8 * k = (56 - 8 * k) + 8 by omega, Int.pow_add]; rfl
  rw [e, show 64 - 8 * (k + 1) = 56 - 8 * k by omega, ← Int.ediv_ediv_of_nonneg (Int.pow_nonneg (by decide))]
  omega
theorem acc_bound (d : Int) (k : Nat) (h0 : 0 ≤ d) : 0 ≤ acc d k ∧ acc d k ≤ d := by
  unfold acc
  exact ⟨Int.ediv_nonneg h0 (Int.pow_nonneg (by decide)), Int.ediv_le_self _ h0⟩

theorem pads_any (bs : List Int) (A : Option Addr) (c : Nat) (w : World) (hlen : bs.length ≤ 9223372036854775807) (hs : Src w A bs) (hk : Keys 0 w) :
    Calls Tryd.prog 5 #[.slice A bs.length c] w fun e w' => e = .returned (.bool true) ∧ Below w.heap.size w w' := by
  have Hs := Lib.hid hs; have Hk := Lib.hid hk; clear hs hk
  obtain ⟨n, hn⟩ : ∃ n, bs.length = n := ⟨_, rfl⟩
  rw [hn] at hlen ⊢
  by_cases h3 : 300 < n
  · clear hn
    go_enter Tryd.func5, Tryd.ntmps5
    go_wp2_with (go_at_call 3; (with_reducible refine (runs_any _ Hk.out).mono ?_); rintro e w1 ⟨rfl, hb⟩; have Hb := Lib.hid hb; clear hb)
    go_ret
    exact ⟨rfl, Hb.out⟩
  · have hpad := fun (W : World) (hS : Src W A bs) => pad_any bs A c W (by omega) hS
    have hM := padF_length bs
    have hpt : pt (bs.length + 1) % 64 = 56 ∧ bs.length + 1 ≤ pt (bs.length + 1) ∧ pt (bs.length + 1) ≤ bs.length + 64 := by unfold pt; omega
    obtain ⟨m, hm⟩ : ∃ m, pt (bs.length + 1) = m := ⟨_, rfl⟩
    rw [hm] at hM hpt
    rw [hM] at hpad
    rw [hn] at hpad hpt
    have Hpad := Lib.hid hpad; have Hn := Lib.hid hn; have Hm := Lib.hid hm; have HM := Lib.hid hM
    clear hpad hn hm hM
    have h3b : decide ((300 : Int) < ↑n) = false := by rw [decide_eq_false_iff_not]; omega
    go_enter Tryd.func5, Tryd.ntmps5
    go_wp2_with fail
    refine (Hpad.out _ Hs.out).mono ?_
    rintro e w1 ⟨rfl, hp, hb⟩
    have k1 : ∀ n', (convert 24 9 (.slice A bs.length c)).run Tryd.prog (w1.drewN n') = .ok (.string (strOfNums bs)) (w1.drewN n') := fun n => conv_src _ _ _ _ (Hs.out.below (below_drewN hb n))
    have hsp := src_part w1 w.heap.size 5 (0, 0) (padF bs) 0 bs.length hp
    rw [List.drop_zero, padF_take] at hsp
    have k2 : ∀ n', (convert 24 9 (.slice (some ⟨w.heap.size, 0, none⟩) bs.length (m + 8))).run Tryd.prog (w1.drewN n') = .ok (.string (strOfNums bs)) (w1.drewN n') := fun n => conv_src _ _ _ _ (hsp.below (below_drewN (Below.refl _ _) n))
    have c1 := cell_of_row w1 _ bs.length _ _ _ hp
    rw [bytes_get _ _ (by rw [HM.out, Hn.out]; omega), padF_128] at c1
    obtain ⟨s, hs⟩ : ∃ s, strOfNums bs = s := ⟨_, rfl⟩
    rw [Hn.out] at c1 k1 k2
    rw [hs] at k1 k2
    have HP := Lib.hid hp; have Hb := Lib.hid hb; clear hp hb hs hsp
    obtain ⟨p1, p2, p3⟩ := hpt
    have e1 : ((m : Int) + 8).tmod 64 = 0 := by rw [Int.tmod_eq_emod_of_nonneg (by omega)]; omega
    have t2 : decide ((m : Int) + 8 < (n : Int) + 9) = false := by rw [decide_eq_false_iff_not]; omega
    have t3 : decide ((n : Int) + 9 + 64 ≤ (m : Int) + 8) = false := by rw [decide_eq_false_iff_not]; omega
    have t4 : n < m + 8 := by omega
    have t5 : (n : Int) < (m : Int) + 8 := by omega
    have t6 : (n : Int) ≤ (m : Int) + 8 := by omega
    have t7 : n ≤ m + 8 := by omega
    have x1 : IntKind.i64.wrap ((n : Int) + 9) = (n : Int) + 9 := IntWalk.i64_in _ (by omega)
    have x2 : IntKind.i64.wrap ((n : Int) + 9 + 64) = (n : Int) + 9 + 64 := IntWalk.i64_in _ (by omega)
    go_wp2_with fail
    go_quiet (fail)
    clear k1 k2 x1 x2 t2 t3 e1 t5 t6 t4 t7 h3b c1
    go_wp2_with fail
    go_loop [4] (fun i => ∃ k : Nat, n + 1 ≤ k ∧ k ≤ m ∧ i = .int .i64 k) (fun i => m - (intOf i).toNat)
    case atStart => exact ⟨n + 1, Nat.le_refl _, by omega, by go_num⟩
    case round =>
      obtain ⟨k, hk1, hk2, rfl⟩ := hrel
      by_cases hlt : k < m
      · have c1 := cell_of_row w1 _ k _ _ _ HP.out
        rw [bytes_get _ _ (by rw [HM.out]; omega), padF_zero _ _ (by rw [Hn.out]; omega) (by rw [Hm.out]; exact hlt)] at c1
        go_wp2_with fail
        go_round
        case rel => exact ⟨k + 1, by omega, by omega, by go_num⟩
        case measure => simp [intOf]; omega
      · have hkm : k = m := by omega
        subst hkm
        clear hlt hk1 hk2
        go_wp2_with fail
        have hd0 : (0 : Int) ≤ bits8 bs := by unfold bits8; omega
        have hd1 : bits8 bs ≤ 2400 := by unfold bits8; rw [Hn.out]; omega
        have hd2 : bits8 bs = 8 * ↑n := by unfold bits8; rw [Hn.out]; omega
        obtain ⟨d, hd⟩ : ∃ d, bits8 bs = d := ⟨_, rfl⟩
        rw [hd] at hd0 hd1 hd2
        have Hd := Lib.hid hd; have Hd2 := Lib.hid hd2; clear hd hd2
        go_loop [5, 6] (fun a i => ∃ j : Nat, j ≤ 8 ∧ a = .int .i64 (acc d j) ∧ i = .int .i64 (↑k + ↑j)) (fun _ i => k + 8 - (intOf i).toNat)
        case atStart =>
          refine ⟨0, by omega, ?_, by simp⟩
          have : acc d 0 = 0 := by unfold acc; exact Int.ediv_eq_zero_of_lt hd0 (by omega)
          rw [this]
        case round =>
          obtain ⟨j, hj, rfl, rfl⟩ := hrel
          obtain ⟨b0, b1⟩ := acc_bound d j hd0
          by_cases hlt : j < 8
          · have c1 := cell_of_row w1 _ (k + j) _ _ _ HP.out
            rw [bytes_get _ _ (by rw [HM.out]; omega)] at c1
            have hdg := padF_dig bs j hlt
            rw [Hm.out] at hdg
            rw [hdg, Hd.out] at c1
            have y0 : 0 ≤ dig d j := by unfold dig; omega
            have y1 : dig d j < 256 := by unfold dig; omega
            have hac := acc_step d j hlt
            obtain ⟨x, hx⟩ : ∃ x, acc d j = x := ⟨_, rfl⟩
            obtain ⟨y, hy⟩ : ∃ y, dig d j = y := ⟨_, rfl⟩
            obtain ⟨z, hz⟩ : ∃ z, acc d (j + 1) = z := ⟨_, rfl⟩
            rw [hx] at b0 b1 hac ⊢
            rw [hy] at y0 y1 c1 hac
            rw [hz] at hac
            have Hz := Lib.hid hz; have Hac := Lib.hid hac
            clear hx hy hz hac hdg
            have n1 : ((k : Int) + ↑j).toNat = k + j := by omega
            have n2 : (0 : Int) ≤ ↑k + ↑j := by omega
            have n3 : (k : Int) + ↑j < ↑k + 8 := by omega
            have n4 : k + j < k + 8 := by omega
            go_wp2_with fail
            go_round
            case rel => exact ⟨j + 1, by omega, by rw [Hz.out, Hac.out], by go_num⟩
            case measure => simp [intOf]; omega
          · have hj8 : j = 8 := by omega
            subst hj8
            have ha8 : acc d 8 = 8 * ↑n := by rw [← Hd2.out]; unfold acc; simp
            rw [ha8, show ((8 : Nat) : Int) = 8 from rfl]
            have t1 : ((8 : Int) * ↑n == 8 * ↑n) = true := beq_self_eq_true _
            clear ha8 b0 b1 hlt hj hd0 hd1
            go_wp2_with fail
            refine (runs_any _ (Hk.out.below (below_drewN Hb.out _) Hk.out.1)).mono ?_
            rintro e w2 ⟨rfl, hb2⟩
            have Hb2 := Lib.hid hb2; clear hb2
            go_wp2_with fail
            go_ret
            exact ⟨rfl, (below_drewN Hb.out _).trans (Hb2.out.mono (below_drewN Hb.out _).size)⟩
end Sha
end Go.Proofs.YteldcnllpokfdaaDoor
