/- The contract of sha.Pad: called with a slice of bytes, nil or not, it returns a slice of new memory that holds the padded bytes; what was there before the call is as it was. Condition: fewer than 2^40 bytes. -/
import Derived.Test.YteldcnllpokfdaaDoorSpread
import Derived.Laws.CopyOwn
import Derived.Laws.MakeOwn
import Derived.Laws.IdiomCopy
import Derived.Deep.WholeRow
namespace Go.Proofs.YteldcnllpokfdaaDoor
namespace Sha
open Go.RowKit
set_option maxHeartbeats 2000000
set_option maxRecDepth 100000

def pt (m : Nat) : Nat := m + (120 - m % 64) % 64
def dig (n : Int) (i : Nat) : Int := n / 2 ^ (56 - 8 * i) % 256
def bits8 (bs : List Int) : Int := (bs.length : Int) * 8
def padz (bs : List Int) : List Int := bs ++ 128 :: List.replicate (pt (bs.length + 1) - (bs.length + 1)) 0
def padk (bs : List Int) (k : Nat) : List Int := padz bs ++ ((List.range k).map (dig (bits8 bs)) ++ List.replicate (8 - k) 0)
def padF (bs : List Int) : List Int := padk bs 8
theorem pt_ge (m : Nat) : m ≤ pt m := by unfold pt; omega
theorem padz_length (bs : List Int) : (padz bs).length = pt (bs.length + 1) := by have := pt_ge (bs.length + 1); simp [padz]; omega
theorem padk_length (bs : List Int) (k : Nat) (h : k ≤ 8) : (padk bs k).length = pt (bs.length + 1) + 8 := by simp [padk, padz_length]; omega
theorem padF_length (bs : List Int) : (padF bs).length = pt (bs.length + 1) + 8 := padk_length _ _ (by omega)
theorem padk_step (bs : List Int) (k : Nat) (h : k < 8) : (padk bs k).set (pt (bs.length + 1) + k) (dig (bits8 bs) k) = padk bs (k + 1) := by
  unfold padk
  rw [← padz_length, List.set_append_right _ _ (by omega)]
  congr 1
  rw [List.set_append_right _ _ (by simp), List.range_succ, List.map_append, List.append_assoc]
  congr 1
  rw [show 8 - k = (8 - (k + 1)) + 1 by omega, List.replicate_succ]
  simp
theorem padk_zero (bs : List Int) : (bs ++ List.replicate (pt (bs.length + 1) + 8 - bs.length) 0).set bs.length 128 = padk bs 0 := by
  have h := pt_ge (bs.length + 1)
  rw [show pt (bs.length + 1) + 8 - bs.length = (pt (bs.length + 1) - (bs.length + 1) + 8) + 1 by omega, List.replicate_succ]
  rw [← List.replicate_append_replicate]
  simp [padk, padz]
theorem madeCells_one (v : Value) (n : Nat) : madeCells #[v] n = (List.replicate n v).toArray := by
  apply Array.ext
  · simp [madeCells]
  · intro i h1 h2
    simp [madeCells, Nat.mod_one]
theorem bytes_zero (n : Nat) : (List.replicate n (Value.int .u8 0)).toArray = bytes (List.replicate n 0) := by simp [bytes]
theorem bytes_set (l : List Int) (j : Nat) (v : Int) : (bytes l).setIfInBounds j (.int .u8 v) = bytes (l.set j v) := by simp [bytes]

/-- The bytes bs are read at A: none of them, or from an address of old memory on. -/
def Src (w : World) (A : Option Addr) (bs : List Int) : Prop :=
  0 < bs.length → ∃ ad, A = some ad ∧ ad.block < w.heap.size ∧ ∀ j v, (bs.map (Value.int .u8))[j]? = some v → w.cell? (ad.add j) = some v
theorem add_block (a : Addr) (j : Nat) : (a.add j).block = a.block := by unfold Addr.add; split <;> rfl
theorem Src.below {w w' : World} {A : Option Addr} {bs : List Int} (h : Src w A bs) (hb : Below w.heap.size w w') : Src w' A bs := fun hp => by
  obtain ⟨ad, e, hl, hc⟩ := h hp
  exact ⟨ad, e, Nat.lt_of_lt_of_le hl hb.size, fun j v hv => (hb.cell (p := ad.add j) (by rw [add_block]; exact hl)).trans (hc j v hv)⟩

def PadRel (w : World) (bs : List Int) (N : Nat) (i : Value) (wr : World) : Prop :=
  ∃ k : Nat, k ≤ 8 ∧ i = .int .i64 k ∧ N = pt (bs.length + 1) ∧ wr.heap[w.heap.size]? = some (.cells (bytes (padk bs k)) 5 (0, 0)) ∧ Below w.heap.size w wr

theorem info5 : (Tryd.prog.info? 5).map (fun i => (i.zero, i.size, i.bytes)) = some (some (.int .u8 0), 1, 1) := by kernel_rfl
theorem make_bytes (w : World) (m : Nat) (c : Int) (hc : c = (m : Int)) (hm : m ≤ 140737488355328) :
    (Instr.makeSlice 24 (.int .i64 c) (.int .i64 c)).run Tryd.prog w = .ok (.slice (some ⟨w.heap.size, 0, none⟩) m m) (w.alloc (.cells (bytes (List.replicate m 0)) 5)) := by
  subst hc
  obtain ⟨i0, hi, hz0, hz1, hz2⟩ := info_parts info5
  have h := run_make (P := Tryd.prog) w 24 5 i0 (.int .u8 0) Tryd.underlying24 hi hz0 .i64 .i64 (m : Int) (m : Int) (by omega) (Int.le_refl _) (by rw [hz2]; omega) (by omega)
  rw [h, hz1, Int.toNat_natCast, Nat.mul_one]
  have e : (Value.int .u8 0).cells = #[Value.int .u8 0] := rfl
  rw [e, madeCells_one, bytes_zero]

theorem copy_bytes (w : World) (A : Option Addr) (bs : List Int) (c M : Nat) (hM : bs.length ≤ M) (hs : Src w A bs) :
    (Builtin.copy_ #[24, 24] 3 #[.slice (some ⟨w.heap.size, 0, none⟩) M M, .slice A bs.length c]).run Tryd.prog (w.alloc (.cells (bytes (List.replicate M 0)) 5)) =
      .ok (.int .i64 bs.length) (w.alloc (.cells (bytes (bs ++ List.replicate (M - bs.length) 0)) 5)) := by
  have hz : (Tryd.prog.info? 5).map (·.size) = some 1 := by kernel_rfl
  by_cases h0 : bs.length = 0
  · obtain rfl := List.eq_nil_of_length_eq_zero h0
    rw [run_copy_none _ 24 24 3 5 _ _ _ _ _ _ Tryd.underlying24 hz (by simp)]
    simp [goInt]
  · obtain ⟨ad, rfl, hl, hc⟩ := hs (by omega)
    have hrun := run_copy_row (P := Tryd.prog) (w.alloc (.cells (bytes (List.replicate M 0)) 5)) 24 24 3 5 w.heap.size 0 M M ad bs.length c (bytes (List.replicate M 0)) 5 (bs.map (.int .u8)) Tryd.underlying24 hz (heap_alloc_new _ _)
      (by rw [List.length_map]; exact (Nat.min_eq_left hM).symm) (fun j v hv => by
        rw [((Below.refl w.heap.size w).alloc (Nat.le_refl _) _).cell (p := ad.add j) (by rw [add_block]; exact hl)]
        exact hc j v hv) (by simp [bytes_size]; omega) (fun v hv => by
        obtain ⟨x, _, rfl⟩ := List.mem_map.1 hv
        rfl)
    rw [hrun, World.setRow_alloc_new]
    congr 3
    · simp
    · simp [bytes]

theorem pad_any (bs : List Int) (A : Option Addr) (c : Nat) (w : World) (hlen : bs.length ≤ 1099511627776) (hs : Src w A bs) :
    Calls Tryd.prog 10 #[.slice A bs.length c] w fun e w' => e = .returned (.slice (some ⟨w.heap.size, 0, none⟩) (padF bs).length (padF bs).length) ∧
      w'.heap[w.heap.size]? = some (.cells (bytes (padF bs)) 5 (0, 0)) ∧ Below w.heap.size w w' := by
  have Hs := Lib.hid hs; clear hs
  obtain ⟨n, hn⟩ : ∃ n, bs.length = n := ⟨_, rfl⟩
  rw [hn]
  have hlen' : n ≤ 1099511627776 := by omega
  have Hn := Lib.hid hn; clear hn hlen
  go_enter Tryd.func10, Tryd.ntmps10
  go_wp2_with fail
  go_loop [3] (fun v => ∃ m : Nat, n + 1 ≤ m ∧ m ≤ pt (n + 1) ∧ v = .int .i64 m) (fun v => pt (n + 1) - (intOf v).toNat)
  case atStart => exact ⟨n + 1, Nat.le_refl _, pt_ge _, by go_num⟩
  case round =>
    obtain ⟨m, hm1, hm2, rfl⟩ := hrel
    have hm3 : m ≤ n + 64 := by unfold pt at hm2; omega
    by_cases hlt : m % 64 = 56
    · have hq : m = pt (n + 1) := by unfold pt at hm2 ⊢; omega
      have ht : ((m : Int) % 64 == 56) = true := by rw [beq_iff_eq]; omega
      have ht2 : ((m : Int) % 64 != 56) = false := by rw [bne_eq_false_iff_eq]; omega
      have Hq := Lib.hid hq; clear hq hlt hm2
      have hmk := make_bytes w (m + 8) (↑m + 8) (by omega) (by omega)
      have hcp := copy_bytes w A bs c (m + 8) (by rw [Hn.out]; omega) Hs.out
      rw [Hn.out] at hcp
      obtain ⟨L, hL⟩ : ∃ L, L = bs ++ List.replicate (m + 8 - n) 0 := ⟨_, rfl⟩
      rw [← hL] at hcp
      have hLn : n < L.length := by rw [hL]; simp [Hn.out]; omega
      have hc1 := cell_of_row (w.alloc (.cells (bytes L) 5)) w.heap.size n _ _ _ (heap_alloc_new _ _)
      rw [bytes_get _ _ hLn] at hc1
      obtain ⟨x0, hx0⟩ : ∃ x, x = L.getD n 0 := ⟨_, rfl⟩
      rw [← hx0] at hc1
      have hf1 := frozen_of_row (w.alloc (.cells (bytes L) 5)) w.heap.size n _ _ (heap_alloc_new _ _)
      have HL := Lib.hid hL; clear hL hx0 hLn
      go_wp2_with fail
      have hst : (w.alloc (Obj.cells ((bytes L).setIfInBounds n (Value.int IntKind.u8 128)) 5)).heap[w.heap.size]? = some (.cells (bytes (padk bs 0)) 5 (0, 0)) := by
        rw [heap_alloc_new, bytes_set, HL.out, ← padk_zero bs, Hn.out, Hq.out]
      have Hst := Lib.hid hst; clear hst hc1 hf1 hcp hmk
      go_loopw [29] (fun i wr => PadRel w bs m i wr) (fun i _ => 8 - (intOf i).toNat)
      case atStart => exact ⟨0, by omega, rfl, by rw [Hn.out]; exact Hq.out, Hst.out, (Below.refl _ _).alloc (Nat.le_refl _) _⟩
      case round =>
        clear Hst
        obtain ⟨k, hk, rfl, hN, hp, hbe⟩ := hrel
        by_cases hlt : k < 8
        · have hl : (padk bs k).length = m + 8 := by rw [padk_length _ _ hk, ← hN]
          have ca := cell_of_row wr _ (m + k) _ _ _ hp
          rw [bytes_get _ _ (by omega)] at ca
          obtain ⟨x1, hx1⟩ : ∃ x, x = (padk bs k).getD (m + k) 0 := ⟨_, rfl⟩
          rw [← hx1] at ca
          have fa := frozen_of_row wr _ (m + k) _ _ hp
          have HN := Lib.hid hN; have HP := Lib.hid hp; have Hbe := Lib.hid hbe; clear hN hp hbe hx1 hl
          have g1 : (0 : Int) ≤ 56 - 8 * ↑k := by omega
          have g2 : (8 : Int) * ↑k ≤ 56 := by omega
          have n1 : ((m : Int) + ↑k).toNat = m + k := by omega
          go_wp2_with fail
          go_roundw
          case rel =>
            refine ⟨k + 1, by omega, by go_num, HN.out, ?_, Hbe.out.setCell (by simp) _⟩
            rw [heap_setCell_same _ _ _ _ _ _ HP.out, bytes_set, ← padk_step bs k hlt, ← HN.out, dig, bits8, Hn.out]
          case measure => simp [intOf]; omega
        · have hk8 : k = 8 := by omega
          subst hk8
          have HN := Lib.hid hN; have HP := Lib.hid hp; have Hbe := Lib.hid hbe; clear hN hp hbe hlt hk
          go_wp2_with fail
          go_ret
          have hF : (padF bs).length = m + 8 := by rw [padF_length, ← HN.out]
          rw [hF]
          exact ⟨rfl, HP.out, Hbe.out⟩
    · have hq : m + 1 ≤ pt (n + 1) := by unfold pt at hm2 ⊢; omega
      have ht : ((m : Int) % 64 == 56) = false := by rw [beq_eq_false_iff_ne]; omega
      have ht2 : ((m : Int) % 64 != 56) = true := by rw [bne_iff_ne]; omega
      clear hlt
      go_wp2
      go_round
      case rel => exact ⟨m + 1, by omega, hq, by go_num⟩
      case measure => simp [intOf]; omega
end Sha
end Go.Proofs.YteldcnllpokfdaaDoor
