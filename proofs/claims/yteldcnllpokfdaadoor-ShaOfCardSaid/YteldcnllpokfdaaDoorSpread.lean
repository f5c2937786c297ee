/- The contract of sha.spread: called with a block of 64 bytes it returns the 64 words of the rounds, and what was there before the call is as it was. Condition: the block has 64 bytes (its type says so). -/
import Derived.Test.YteldcnllpokfdaaDoorBits
import Derived.StillTailTactics
import Derived.Laws.Rows
import Derived.Deep.LoopGhost
import Derived.Deep.QuietTactic
import Derived.BigQuiet
import Derived.IntWalk
import Derived.Lib.Hide
import Derived.WalkSmall
namespace Go.Proofs.YteldcnllpokfdaaDoor
namespace Sha
open Go.RowKit
set_option maxHeartbeats 1000000
set_option maxRecDepth 100000

def SpRel (w : World) (b : List Int) (lo m : Nat) (i : Value) (wr : World) : Prop :=
  ∃ k : Nat, lo ≤ k ∧ k ≤ m ∧ i = .int .i64 k ∧ wr.heap[w.heap.size]? = some (.cells (bytes b) 30 (0, 0)) ∧ wr.heap[w.heap.size + 1 + 1]? = some (.cells (arr (Wl b k) 64) 36 (0, 0)) ∧
      (∃ r, r.size = 64 ∧ wr.heap[w.heap.size + 1]? = some (.cells r 36 (0, 0))) ∧ Below w.heap.size w wr

theorem sp_step {w wr : World} {b : List Int} {lo m k : Nat} {v : Int} (h0 : lo ≤ k) (h1 : k < m) (h2 : k < 64) (hB : wr.heap[w.heap.size]? = some (.cells (bytes b) 30 (0, 0)))
    (hA : wr.heap[w.heap.size + 1 + 1]? = some (.cells (arr (Wl b k) 64) 36 (0, 0))) {r : Array Value} (hr : r.size = 64) (hR : wr.heap[w.heap.size + 1]? = some (.cells r 36 (0, 0))) (hbe : Below w.heap.size w wr)
    (hv : Wl b (k + 1) = Wl b k ++ [v]) : SpRel w b lo m (.int .i64 (↑k + 1)) (wr.setCell ⟨w.heap.size + 1 + 1, k, none⟩ (.int .u32 v)) := by
  refine ⟨k + 1, by omega, by omega, by go_num, ?_, ?_, ⟨r, hr, ?_⟩, hbe.setCell (by simp; omega) _⟩
  · rw [heap_setCell_other _ _ _ _ (by simp; omega)]; exact hB
  · rw [heap_setCell_same _ _ _ _ _ _ hA, hv]
    have := arr_set (Wl b k) 64 v (by rw [Wl_length]; exact h2)
    rw [Wl_length] at this
    rw [this]
  · rw [heap_setCell_other _ _ _ _ (by simp)]; exact hR

theorem SpRel.drewN {w wr : World} {b : List Int} {lo m : Nat} {i : Value} (h : SpRel w b lo m i wr) (n : Nat) : SpRel w b lo m i (wr.drewN n) := h.imp fun _ ⟨a, b, c, d, e, f, g⟩ => ⟨a, b, c, d, e, f, below_drewN g n⟩

theorem below_setRow {B : Nat} {a w : World} (h : Below B a w) {g : Nat} (hg : B ≤ g) (cs : Array Value) : Below B a (w.setRow g cs) :=
  ⟨h.os, h.tape, h.output, by rw [size_setRow]; exact h.size, fun k hk => by rw [setRow_other w g k cs (by omega)]; exact h.block k hk⟩
theorem size_al (w : World) (o : Obj) : (w.alloc o).heap.size = w.heap.size + 1 := by show (w.heap.push o).size = _; simp
theorem heap3 (w : World) (a b c : Obj) : (((w.alloc a).alloc b).alloc c).heap[w.heap.size]? = some a ∧ (((w.alloc a).alloc b).alloc c).heap[w.heap.size + 1]? = some b ∧ (((w.alloc a).alloc b).alloc c).heap[w.heap.size + 1 + 1]? = some c := by
  refine ⟨?_, ?_, ?_⟩
  · rw [Below.heap_alloc _ _ _ (by rw [size_al, size_al]; omega), Below.heap_alloc _ _ _ (by rw [size_al]; omega), heap_alloc_new]
  · rw [Below.heap_alloc _ _ _ (by rw [size_al, size_al]; omega), ← size_al w a, heap_alloc_new]
  · rw [← size_al w a, ← size_al _ b, heap_alloc_new]

theorem sp_start (w : World) (b : List Int) (r1 r2 : Array Value) (h1 : r1.size = 64) (h2 : r2 = arr (Wl b 0) 64) :
    SpRel w b 0 16 (.int .i64 0) (((w.alloc (.cells (bytes b) 30)).alloc (.cells r1 36)).alloc (.cells r2 36)) := by
  subst h2
  refine ⟨0, Nat.le_refl _, by omega, rfl, ?_, ?_, ⟨r1, h1, ?_⟩, ?_⟩
  · exact (heap3 _ _ _ _).1
  · exact (heap3 _ _ _ _).2.2
  · exact (heap3 _ _ _ _).2.1
  · exact ((((Below.refl _ _).alloc (Nat.le_refl _) _).alloc (by rw [size_al]; omega) _).alloc (by rw [size_al, size_al]; omega) _)

theorem spread_any (b : List Int) (w : World) (hb : b.length = 64) :
    Calls Tryd.prog 15 #[.agg (bytes b)] w fun e w' => e = .returned (.agg (row (Wl b 64))) ∧ Below w.heap.size w w' := by
  have Hb := Lib.hid hb; clear hb
  go_enter Tryd.func15, Tryd.ntmps15
  go_wp2
  go_loopw [10] (fun i wr => SpRel w b 0 16 i wr) (fun i _ => 16 - (intOf i).toNat)
  case atStart =>
    exact sp_start w b _ _ rfl rfl
  case round =>
    obtain ⟨k, _, hk, rfl, hB, hA, ⟨r, hr, hR⟩, hbe⟩ := hrel
    by_cases hlt : k < 16
    · have c0 := cell_of_row wr _ (4 * k) _ _ _ hB
      have c1 := cell_of_row wr _ (4 * k + 1) _ _ _ hB
      have c2 := cell_of_row wr _ (4 * k + 2) _ _ _ hB
      have c3 := cell_of_row wr _ (4 * k + 3) _ _ _ hB
      rw [bytes_get _ _ (by rw [Hb]; omega)] at c0 c1 c2 c3
      obtain ⟨x0, hx0⟩ : ∃ x, x = b.getD (4 * k) 0 := ⟨_, rfl⟩
      obtain ⟨x1, hx1⟩ : ∃ x, x = b.getD (4 * k + 1) 0 := ⟨_, rfl⟩
      obtain ⟨x2, hx2⟩ : ∃ x, x = b.getD (4 * k + 2) 0 := ⟨_, rfl⟩
      obtain ⟨x3, hx3⟩ : ∃ x, x = b.getD (4 * k + 3) 0 := ⟨_, rfl⟩
      rw [← hx0] at c0; rw [← hx1] at c1; rw [← hx2] at c2; rw [← hx3] at c3
      have HX := Lib.hid (And.intro hx0 (And.intro hx1 (And.intro hx2 hx3))); clear hx0 hx1 hx2 hx3
      have ca := cell_of_row wr _ k _ _ _ hA
      rw [arr_get0 _ _ _ (by rw [Wl_length]; exact Nat.le_refl _) (by omega)] at ca
      have fa := frozen_of_row wr _ k _ _ hA
      have HA := Lib.hid hA; clear hA
      have HB := Lib.hid hB; clear hB
      have HR := Lib.hid hR; clear hR
      have Hr := Lib.hid hr; clear hr
      have Hbe := Lib.hid hbe; clear hbe
      have gk : (↑k : Int) < 64 := by omega
      have gk0 : (↑k : Int) < 16 := by omega
      have g0 : (0 : Int) ≤ 4 * ↑k := by omega
      have g1 : (4 : Int) * ↑k < 64 := by omega
      have p2 : (0 : Int) ≤ 4 * ↑k + 1 := by omega
      have p3 : (0 : Int) ≤ 4 * ↑k + 2 := by omega
      have p4 : (0 : Int) ≤ 4 * ↑k + 3 := by omega
      have g2 : (4 : Int) * ↑k + 1 < 64 := by omega
      have g3 : (4 : Int) * ↑k + 2 < 64 := by omega
      have g4 : (4 : Int) * ↑k + 3 < 64 := by omega
      have n1 : ((4 : Int) * ↑k).toNat = 4 * k := by omega
      have n2 : ((4 : Int) * ↑k + 1).toNat = 4 * k + 1 := by omega
      have n3 : ((4 : Int) * ↑k + 2).toNat = 4 * k + 2 := by omega
      have n4 : ((4 : Int) * ↑k + 3).toNat = 4 * k + 3 := by omega
      have e0 : IntKind.i64.wrap (4 * ↑k) = 4 * ↑k := IntWalk.i64_in _ (by omega)
      have e1 : IntKind.i64.wrap (4 * ↑k + 1) = 4 * ↑k + 1 := IntWalk.i64_in _ (by omega)
      have e2 : IntKind.i64.wrap (4 * ↑k + 2) = 4 * ↑k + 2 := IntWalk.i64_in _ (by omega)
      have e3 : IntKind.i64.wrap (4 * ↑k + 3) = 4 * ↑k + 3 := IntWalk.i64_in _ (by omega)
      go_wp2
      go_still_tail 31, (by kernel_rfl)
      go_wp2
      go_roundw
      case rel =>
        refine SpRel.drewN (sp_step (by omega) hlt (by omega) HB.out HA.out Hr.out HR.out Hbe.out ?_) 1
        obtain ⟨rfl, rfl, rfl, rfl⟩ := HX.out
        simp only [Wl, if_pos hlt, word, word4, u8, or]
      case measure => simp [intOf]; omega
    · have hk16 : k = 16 := by omega
      subst hk16
      have HA := Lib.hid hA; clear hA
      have HB := Lib.hid hB; clear hB
      have HR := Lib.hid hR; clear hR
      have Hr := Lib.hid hr; clear hr
      have Hbe := Lib.hid hbe; clear hbe
      clear hlt hk
      rw [show ((16 : Nat) : Int) = 16 from rfl]
      go_wp2
      obtain ⟨wo, hwo⟩ : ∃ wo : World, wo = wr := ⟨_, rfl⟩
      go_loopw [5] (fun i wr => SpRel w b 16 64 i wr) (fun i _ => 64 - (intOf i).toNat)
      case atStart => exact ⟨16, by omega, by omega, rfl, HB.out, HA.out, ⟨r, Hr.out, HR.out⟩, Hbe.out⟩
      case round =>
        obtain ⟨k, h16, hk, rfl, hB, hA, ⟨r2, hr, hR⟩, hbe⟩ := hrel
        clear hwo
        by_cases hlt : k < 64
        · have c0 := cell_of_row wr _ (k - 16) _ _ _ hA
          have c1 := cell_of_row wr _ (k - 15) _ _ _ hA
          have c2 := cell_of_row wr _ (k - 7) _ _ _ hA
          have c3 := cell_of_row wr _ (k - 2) _ _ _ hA
          rw [arr_get _ _ _ (by rw [Wl_length]; omega)] at c0 c1 c2 c3
          obtain ⟨x0, hx0⟩ : ∃ x, x = (Wl b k).getD (k - 16) 0 := ⟨_, rfl⟩
          obtain ⟨x1, hx1⟩ : ∃ x, x = (Wl b k).getD (k - 15) 0 := ⟨_, rfl⟩
          obtain ⟨x2, hx2⟩ : ∃ x, x = (Wl b k).getD (k - 7) 0 := ⟨_, rfl⟩
          obtain ⟨x3, hx3⟩ : ∃ x, x = (Wl b k).getD (k - 2) 0 := ⟨_, rfl⟩
          rw [← hx0] at c0; rw [← hx1] at c1; rw [← hx2] at c2; rw [← hx3] at c3
          have HX := Lib.hid (And.intro hx0 (And.intro hx1 (And.intro hx2 hx3))); clear hx0 hx1 hx2 hx3
          have ca := cell_of_row wr _ k _ _ _ hA
          rw [arr_get0 _ _ _ (by rw [Wl_length]; exact Nat.le_refl _) (by omega)] at ca
          have fa := frozen_of_row wr _ k _ _ hA
          have HA := Lib.hid hA; clear hA
          have HB := Lib.hid hB; clear hB
          have HR := Lib.hid hR; clear hR
          have Hr := Lib.hid hr; clear hr
          have Hbe := Lib.hid hbe; clear hbe
          have gk : (↑k : Int) < 64 := by omega
          have g0 : (0 : Int) ≤ ↑k - 16 := by omega
          have g1 : (0 : Int) ≤ ↑k - 15 := by omega
          have g2 : (0 : Int) ≤ ↑k - 7 := by omega
          have g3 : (0 : Int) ≤ ↑k - 2 := by omega
          have q0 : (16 : Int) ≤ ↑k := by omega
          have q1 : (15 : Int) ≤ ↑k := by omega
          have q2 : (7 : Int) ≤ ↑k := by omega
          have q3 : (2 : Int) ≤ ↑k := by omega
          have p0 : (↑k : Int) - 16 < 64 := by omega
          have p1 : (↑k : Int) - 15 < 64 := by omega
          have p2 : (↑k : Int) - 7 < 64 := by omega
          have p3 : (↑k : Int) - 2 < 64 := by omega
          have n0 : ((↑k : Int) - 16).toNat = k - 16 := by omega
          have n1 : ((↑k : Int) - 15).toNat = k - 15 := by omega
          have n2 : ((↑k : Int) - 7).toNat = k - 7 := by omega
          have n3 : ((↑k : Int) - 2).toNat = k - 2 := by omega
          have e0 : IntKind.i64.wrap (↑k - 16) = ↑k - 16 := IntWalk.i64_in _ (by omega)
          have e1 : IntKind.i64.wrap (↑k - 15) = ↑k - 15 := IntWalk.i64_in _ (by omega)
          have e2 : IntKind.i64.wrap (↑k - 7) = ↑k - 7 := IntWalk.i64_in _ (by omega)
          have e3 : IntKind.i64.wrap (↑k - 2) = ↑k - 2 := IntWalk.i64_in _ (by omega)
          go_wp2_with fail
          go_quiet (fail)
          go_wp2_with (first | (go_at_call 16; (with_reducible refine (rot7 _ _).mono ?_); rintro e w' ⟨rfl, rfl⟩) | (go_at_call 16; (with_reducible refine (rot18 _ _).mono ?_); rintro e w' ⟨rfl, rfl⟩) | (go_at_call 16; (with_reducible refine (rot17 _ _).mono ?_); rintro e w' ⟨rfl, rfl⟩) | (go_at_call 16; (with_reducible refine (rot19 _ _).mono ?_); rintro e w' ⟨rfl, rfl⟩))
          generalize hwq : wr.drewN _ = wq
          have d0 : wq.cell? ⟨w.heap.size + 1 + 1, k - 16, none⟩ = some (.int .u32 x0) := by rw [← hwq]; exact c0
          have d2 : wq.cell? ⟨w.heap.size + 1 + 1, k - 7, none⟩ = some (.int .u32 x2) := by rw [← hwq]; exact c2
          have da : wq.cell? ⟨w.heap.size + 1 + 1, k, none⟩ = some (.int .u32 0) := by rw [← hwq]; exact ca
          have fd : wq.frozen? ⟨w.heap.size + 1 + 1, k, none⟩ = false := by rw [← hwq]; exact fa
          have Hwq := Lib.hid hwq; clear hwq c0 c1 c2 c3 ca fa
          go_still_tail 15, (by kernel_rfl)
          go_wp2
          go_roundw
          case rel =>
            refine SpRel.drewN (sp_step h16 hlt hlt ?_ ?_ Hr.out ?_ ?_ ?_) 1
            · rw [← Hwq.out]; exact HB.out
            · rw [← Hwq.out]; exact HA.out
            · rw [← Hwq.out]; exact HR.out
            · rw [← Hwq.out]; exact below_drewN Hbe.out _
            · obtain ⟨rfl, rfl, rfl, rfl⟩ := HX.out
              simp only [Wl, if_neg (show ¬ k < 16 by omega), next, nextw, sg0, sg1, add, xor, Int.emod_add_emod]
          case measure => simp [intOf]; omega
        · have hk64 : k = 64 := by omega
          subst hk64
          have HA := Lib.hid hA; clear hA
          have HB := Lib.hid hB; clear hB
          have HR := Lib.hid hR; clear hR
          have Hr := Lib.hid hr; clear hr
          have Hbe := Lib.hid hbe; clear hbe
          clear hlt hk h16
          go_wp2_with (first | (refine wpList_load_row rfl 36 _ rfl _ rfl 36 _ _ _ HA.out Tryd.underlying36 rfl (by rw [arr_size _ _ (by rw [Wl_length]; exact Nat.le_refl _)]; kernel_rfl) ?_) | (refine wpList_store_row rfl 36 _ _ rfl _ _ rfl rfl 36 _ HR.out (by rw [arr_size _ _ (by rw [Wl_length]; exact Nat.le_refl _)]; kernel_rfl) (by rw [arr_size _ _ (by rw [Wl_length]; exact Nat.le_refl _)]; exact Hr.out) (by rw [arr_full _ _ (Wl_length _ _)]; exact row_one _) ?_))
          have hs36 : ((wr.setRow (w.heap.size + 1) (arr (Wl b 64) 64)).heap[w.heap.size + 1]?) = some (.cells (arr (Wl b 64) 64) 36 (0, 0)) := setRow_heap _ _ _ _ _ _ HR.out
          refine bodyPost_ret (results_cell_row rfl _ _ (w.heap.size + 1) 36 _ _ _ rfl hs36 Tryd.underlying36 rfl (by rw [arr_size _ _ (by rw [Wl_length]; exact Nat.le_refl _)]; kernel_rfl)) rfl ⟨?_, ?_⟩
          · rw [arr_full _ _ (Wl_length _ _)]
          · exact below_setRow Hbe.out (by omega) _
end Sha
end Go.Proofs.YteldcnllpokfdaaDoor
