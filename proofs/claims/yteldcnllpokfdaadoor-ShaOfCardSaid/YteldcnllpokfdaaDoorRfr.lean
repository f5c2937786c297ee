/- The contract of the reference's Round: called with a state of eight words and a block of 64 bytes, where its table holds what its initialiser lays, it returns the plain round function's state, and what was there before the call is as it was. -/
import Derived.Test.YteldcnllpokfdaaDoorRnd
namespace Go.Proofs.YteldcnllpokfdaaDoor
namespace Sha
open Go.RowKit
set_option maxHeartbeats 4000000
set_option maxRecDepth 100000
theorem trn2_q (x : Int) (w : World) (n : Nat) : Calls Tryd.prog 17 #[.int .u32 x, .int .u64 2] (w.drewN n) fun e w' => e = .returned (.int .u32 (r2 x)) ∧ ∃ m, w' = w.drewN m := (trn2 x (w.drewN n)).mono fun _ _ ⟨a, b⟩ => ⟨a, n, b.symm⟩
theorem trn6_q (x : Int) (w : World) (n : Nat) : Calls Tryd.prog 17 #[.int .u32 x, .int .u64 6] (w.drewN n) fun e w' => e = .returned (.int .u32 (r6 x)) ∧ ∃ m, w' = w.drewN m := (trn6 x (w.drewN n)).mono fun _ _ ⟨a, b⟩ => ⟨a, n, b.symm⟩
theorem trn7_q (x : Int) (w : World) (n : Nat) : Calls Tryd.prog 17 #[.int .u32 x, .int .u64 7] (w.drewN n) fun e w' => e = .returned (.int .u32 (r7 x)) ∧ ∃ m, w' = w.drewN m := (trn7 x (w.drewN n)).mono fun _ _ ⟨a, b⟩ => ⟨a, n, b.symm⟩
theorem trn11_q (x : Int) (w : World) (n : Nat) : Calls Tryd.prog 17 #[.int .u32 x, .int .u64 11] (w.drewN n) fun e w' => e = .returned (.int .u32 (r11 x)) ∧ ∃ m, w' = w.drewN m := (trn11 x (w.drewN n)).mono fun _ _ ⟨a, b⟩ => ⟨a, n, b.symm⟩
theorem trn13_q (x : Int) (w : World) (n : Nat) : Calls Tryd.prog 17 #[.int .u32 x, .int .u64 13] (w.drewN n) fun e w' => e = .returned (.int .u32 (r13 x)) ∧ ∃ m, w' = w.drewN m := (trn13 x (w.drewN n)).mono fun _ _ ⟨a, b⟩ => ⟨a, n, b.symm⟩
theorem trn17_q (x : Int) (w : World) (n : Nat) : Calls Tryd.prog 17 #[.int .u32 x, .int .u64 17] (w.drewN n) fun e w' => e = .returned (.int .u32 (r17 x)) ∧ ∃ m, w' = w.drewN m := (trn17 x (w.drewN n)).mono fun _ _ ⟨a, b⟩ => ⟨a, n, b.symm⟩
theorem trn18_q (x : Int) (w : World) (n : Nat) : Calls Tryd.prog 17 #[.int .u32 x, .int .u64 18] (w.drewN n) fun e w' => e = .returned (.int .u32 (r18 x)) ∧ ∃ m, w' = w.drewN m := (trn18 x (w.drewN n)).mono fun _ _ ⟨a, b⟩ => ⟨a, n, b.symm⟩
theorem trn19_q (x : Int) (w : World) (n : Nat) : Calls Tryd.prog 17 #[.int .u32 x, .int .u64 19] (w.drewN n) fun e w' => e = .returned (.int .u32 (r19 x)) ∧ ∃ m, w' = w.drewN m := (trn19 x (w.drewN n)).mono fun _ _ ⟨a, b⟩ => ⟨a, n, b.symm⟩
theorem trn22_q (x : Int) (w : World) (n : Nat) : Calls Tryd.prog 17 #[.int .u32 x, .int .u64 22] (w.drewN n) fun e w' => e = .returned (.int .u32 (r22 x)) ∧ ∃ m, w' = w.drewN m := (trn22 x (w.drewN n)).mono fun _ _ ⟨a, b⟩ => ⟨a, n, b.symm⟩
theorem trn25_q (x : Int) (w : World) (n : Nat) : Calls Tryd.prog 17 #[.int .u32 x, .int .u64 25] (w.drewN n) fun e w' => e = .returned (.int .u32 (r25 x)) ∧ ∃ m, w' = w.drewN m := (trn25 x (w.drewN n)).mono fun _ _ ⟨a, b⟩ => ⟨a, n, b.symm⟩

def RfRel (w : World) (st b : List Int) (i : Value) (wr : World) : Prop :=
  ∃ k : Nat, k ≤ 64 ∧ i = .int .i64 k ∧ wr.heap[w.heap.size]? = some (.cells (row st) 29 (0, 0)) ∧ wr.heap[w.heap.size + 1]? = some (.cells (bytes b) 30 (0, 0)) ∧
    wr.heap[w.heap.size + 1 + 1 + 1]? = some (.cells (arr (Wl b k) 64) 36 (0, 0)) ∧ (∃ r, r.size = 8 ∧ wr.heap[w.heap.size + 1 + 1]? = some (.cells r 29 (0, 0))) ∧ Below w.heap.size w wr ∧ Keys 1 wr
theorem RfRel.drewN {w wr : World} {st b : List Int} {i : Value} (h : RfRel w st b i wr) (n : Nat) : RfRel w st b i (wr.drewN n) :=
  h.imp fun _ ⟨a, b, c, d, e, f, g, h⟩ => ⟨a, b, c, d, e, f, below_drewN g n, h⟩
theorem rf_step {w wr : World} {st b : List Int} {k : Nat} {v : Int} (h2 : k < 64) (hg : 1 < w.heap.size) (h0 : wr.heap[w.heap.size]? = some (.cells (row st) 29 (0, 0))) (hB : wr.heap[w.heap.size + 1]? = some (.cells (bytes b) 30 (0, 0)))
    (hA : wr.heap[w.heap.size + 1 + 1 + 1]? = some (.cells (arr (Wl b k) 64) 36 (0, 0))) {r : Array Value} (hr : r.size = 8) (hR : wr.heap[w.heap.size + 1 + 1]? = some (.cells r 29 (0, 0))) (hbe : Below w.heap.size w wr) (hk : Keys 1 wr)
    (hv : Wl b (k + 1) = Wl b k ++ [v]) : RfRel w st b (.int .i64 (↑k + 1)) (wr.setCell ⟨w.heap.size + 1 + 1 + 1, k, none⟩ (.int .u32 v)) := by
  refine ⟨k + 1, by omega, by go_num, ?_, ?_, ?_, ⟨r, hr, ?_⟩, hbe.setCell (by simp; omega) _, ?_⟩
  · rw [heap_setCell_other _ _ _ _ (by simp; omega)]; exact h0
  · rw [heap_setCell_other _ _ _ _ (by simp)]; exact hB
  · rw [heap_setCell_same _ _ _ _ _ _ hA, hv]
    have := arr_set (Wl b k) 64 v (by rw [Wl_length]; exact h2)
    rw [Wl_length] at this
    rw [this]
  · rw [heap_setCell_other _ _ _ _ (by simp)]; exact hR
  · exact hk.below (B := w.heap.size) ((Below.refl _ _).setCell (by simp; omega) _) hg
theorem rf_start (w : World) (st b : List Int) (r1 r2 : Array Value) (h1 : r1.size = 8) (h2 : r2 = arr (Wl b 0) 64) (hk : Keys 1 w) :
    RfRel w st b (.int .i64 0) ((((w.alloc (.cells (row st) 29)).alloc (.cells (bytes b) 30)).alloc (.cells r1 29)).alloc (.cells r2 36)) := by
  subst h2
  have B : Below w.heap.size w ((((w.alloc (.cells (row st) 29)).alloc (.cells (bytes b) 30)).alloc (.cells r1 29)).alloc (.cells (arr (Wl b 0) 64) 36)) :=
    ((((Below.refl _ _).alloc (Nat.le_refl _) _).alloc (by rw [size_al]; omega) _).alloc (by rw [size_al, size_al]; omega) _).alloc (by rw [size_al, size_al, size_al]; omega) _
  have h3 := heap3 w (.cells (row st) 29) (.cells (bytes b) 30) (.cells r1 29)
  refine ⟨0, by omega, rfl, ?_, ?_, ?_, ⟨r1, h1, ?_⟩, B, hk.below B hk.1⟩
  · rw [Below.heap_alloc _ _ _ (by rw [size_al, size_al, size_al]; omega)]; exact h3.1
  · rw [Below.heap_alloc _ _ _ (by rw [size_al, size_al, size_al]; omega)]; exact h3.2.1
  · have := heap_alloc_new (((w.alloc (.cells (row st) 29)).alloc (.cells (bytes b) 30)).alloc (.cells r1 29)) (.cells (arr (Wl b 0) 64) 36)
    rwa [size_al, size_al, size_al] at this
  · rw [Below.heap_alloc _ _ _ (by rw [size_al, size_al, size_al]; omega)]; exact h3.2.2

theorem ref_rnd (st b : List Int) (w : World) (hh : st.length = 8) (hb : b.length = 64) (hg : Keys 1 w) :
    Calls Tryd.prog 12 #[.agg (row st), .agg (bytes b)] w fun e w' => e = .returned (.agg (row (roundF KK st b))) ∧ Below w.heap.size w w' := by
  have hg0 := hg.1
  have Hb := Lib.hid hb; clear hb
  have Hh := Lib.hid hh; clear hh
  have Hg := Lib.hid hg; clear hg
  have I8 := Lib.hid (show (Tryd.prog.info? 29).map (·.size) = some 8 by kernel_rfl)
  go_enter Tryd.func12, Tryd.ntmps12
  go_wp2_with fail
  go_loopw [6] (fun i wr => RfRel w st b i wr) (fun i _ => 64 - (intOf i).toNat)
  case atStart => exact rf_start w st b _ _ rfl rfl Hg.out
  case round =>
    obtain ⟨k, hk, rfl, h1, hB, hA, ⟨r, hr, hR⟩, hbe, hkey⟩ := hrel
    by_cases h64 : k < 64
    · have ca := cell_of_row wr _ k _ _ _ hA
      rw [arr_get0 _ _ _ (by rw [Wl_length]; exact Nat.le_refl _) (by omega)] at ca
      have fa := frozen_of_row wr _ k _ _ hA
      by_cases hlt : k < 16
      · have c0 := cell_of_row wr _ (4 * k) _ _ _ hB
        have c1 := cell_of_row wr _ (4 * k + 1) _ _ _ hB
        have c2 := cell_of_row wr _ (4 * k + 2) _ _ _ hB
        have c3 := cell_of_row wr _ (4 * k + 3) _ _ _ hB
        rw [bytes_get _ _ (by rw [Hb]; omega)] at c0 c1 c2 c3
        obtain ⟨x0, hx0⟩ : ∃ x, x = b.getD (4 * k) 0 := ⟨_, rfl⟩
        obtain ⟨x1, hx1⟩ : ∃ x, x = b.getD (4 * k + 1) 0 := ⟨_, rfl⟩
        obtain ⟨x2, hx2⟩ : ∃ x, x = b.getD (4 * k + 2) 0 := ⟨_, rfl⟩
        obtain ⟨x3, hx3⟩ : ∃ x, x = b.getD (4 * k + 3) 0 := ⟨_, rfl⟩
        rw [← hx0] at c0; rw [← hx1] at c1; rw [← hx2] at c2; rw [← hx3] at c3
        have HX := Lib.hid (And.intro hx0 (And.intro hx1 (And.intro hx2 hx3))); clear hx0 hx1 hx2 hx3
        have H1 := Lib.hid h1; have HA := Lib.hid hA; have HB := Lib.hid hB; have HR := Lib.hid hR; have Hr := Lib.hid hr; have Hbe := Lib.hid hbe; have Hkey := Lib.hid hkey
        clear h1 hA hB hR hr hbe hkey
        have gk : (↑k : Int) < 64 := by omega
        have gk0 : (↑k : Int) < 16 := by omega
        have g0 : (0 : Int) ≤ 4 * ↑k := by omega
        have g1 : (4 : Int) * ↑k < 64 := by omega
        have p2 : (0 : Int) ≤ 4 * ↑k + 1 := by omega
        have p3 : (0 : Int) ≤ 4 * ↑k + 2 := by omega
        have p4 : (0 : Int) ≤ 4 * ↑k + 3 := by omega
        have g2 : (4 : Int) * ↑k + 1 < 64 := by omega
        have g3 : (4 : Int) * ↑k + 2 < 64 := by omega
        have g4 : (4 : Int) * ↑k + 3 < 64 := by omega
        have n1 : ((4 : Int) * ↑k).toNat = 4 * k := by omega
        have n2 : ((4 : Int) * ↑k + 1).toNat = 4 * k + 1 := by omega
        have n3 : ((4 : Int) * ↑k + 2).toNat = 4 * k + 2 := by omega
        have n4 : ((4 : Int) * ↑k + 3).toNat = 4 * k + 3 := by omega
        have e0 : IntKind.i64.wrap (4 * ↑k) = 4 * ↑k := IntWalk.i64_in _ (by omega)
        have e1 : IntKind.i64.wrap (4 * ↑k + 1) = 4 * ↑k + 1 := IntWalk.i64_in _ (by omega)
        have e2 : IntKind.i64.wrap (4 * ↑k + 2) = 4 * ↑k + 2 := IntWalk.i64_in _ (by omega)
        have e3 : IntKind.i64.wrap (4 * ↑k + 3) = 4 * ↑k + 3 := IntWalk.i64_in _ (by omega)
        go_wp2_with fail
        go_still_tail 31, (by kernel_rfl)
        go_wp2
        go_roundw
        case rel =>
          refine RfRel.drewN (rf_step h64 hg0 H1.out HB.out HA.out Hr.out HR.out Hbe.out Hkey.out ?_) 1
          obtain ⟨rfl, rfl, rfl, rfl⟩ := HX.out
          simp only [Wl, if_pos hlt, word, word4, Sha.u8, or]
        case measure => simp [intOf]; omega
      · have c0 := cell_of_row wr _ (k - 16) _ _ _ hA
        have c1 := cell_of_row wr _ (k - 15) _ _ _ hA
        have c2 := cell_of_row wr _ (k - 7) _ _ _ hA
        have c3 := cell_of_row wr _ (k - 2) _ _ _ hA
        rw [arr_get _ _ _ (by rw [Wl_length]; omega)] at c0 c1 c2 c3
        obtain ⟨x0, hx0⟩ : ∃ x, x = (Wl b k).getD (k - 16) 0 := ⟨_, rfl⟩
        obtain ⟨x1, hx1⟩ : ∃ x, x = (Wl b k).getD (k - 15) 0 := ⟨_, rfl⟩
        obtain ⟨x2, hx2⟩ : ∃ x, x = (Wl b k).getD (k - 7) 0 := ⟨_, rfl⟩
        obtain ⟨x3, hx3⟩ : ∃ x, x = (Wl b k).getD (k - 2) 0 := ⟨_, rfl⟩
        rw [← hx0] at c0; rw [← hx1] at c1; rw [← hx2] at c2; rw [← hx3] at c3
        have HX := Lib.hid (And.intro hx0 (And.intro hx1 (And.intro hx2 hx3))); clear hx0 hx1 hx2 hx3
        have H1 := Lib.hid h1; have HA := Lib.hid hA; have HB := Lib.hid hB; have HR := Lib.hid hR; have Hr := Lib.hid hr; have Hbe := Lib.hid hbe; have Hkey := Lib.hid hkey
        clear h1 hA hB hR hr hbe hkey
        have gk : (↑k : Int) < 64 := by omega
        have g0 : (0 : Int) ≤ ↑k - 16 := by omega
        have g1 : (0 : Int) ≤ ↑k - 15 := by omega
        have g2 : (0 : Int) ≤ ↑k - 7 := by omega
        have g3 : (0 : Int) ≤ ↑k - 2 := by omega
        have q0 : (16 : Int) ≤ ↑k := by omega
        have q1 : (15 : Int) ≤ ↑k := by omega
        have q2 : (7 : Int) ≤ ↑k := by omega
        have q3 : (2 : Int) ≤ ↑k := by omega
        have p0 : (↑k : Int) - 16 < 64 := by omega
        have p1 : (↑k : Int) - 15 < 64 := by omega
        have p2 : (↑k : Int) - 7 < 64 := by omega
        have p3 : (↑k : Int) - 2 < 64 := by omega
        have n0 : ((↑k : Int) - 16).toNat = k - 16 := by omega
        have n1 : ((↑k : Int) - 15).toNat = k - 15 := by omega
        have n2 : ((↑k : Int) - 7).toNat = k - 7 := by omega
        have n3 : ((↑k : Int) - 2).toNat = k - 2 := by omega
        have e0 : IntKind.i64.wrap (↑k - 16) = ↑k - 16 := IntWalk.i64_in _ (by omega)
        have e1 : IntKind.i64.wrap (↑k - 15) = ↑k - 15 := IntWalk.i64_in _ (by omega)
        have e2 : IntKind.i64.wrap (↑k - 7) = ↑k - 7 := IntWalk.i64_in _ (by omega)
        have e3 : IntKind.i64.wrap (↑k - 2) = ↑k - 2 := IntWalk.i64_in _ (by omega)
        go_wp2_with fail
        go_quiet (fail)
        go_wp2_with (first | (go_at_call 17; (with_reducible refine (trn7 _ _).mono ?_); rintro e w' ⟨rfl, rfl⟩) | (go_at_call 17; (with_reducible refine (trn18 _ _).mono ?_); rintro e w' ⟨rfl, rfl⟩) | (go_at_call 17; (with_reducible refine (trn17 _ _).mono ?_); rintro e w' ⟨rfl, rfl⟩) | (go_at_call 17; (with_reducible refine (trn19 _ _).mono ?_); rintro e w' ⟨rfl, rfl⟩))
        generalize hwq : wr.drewN _ = wq
        have d0 : wq.cell? ⟨w.heap.size + 1 + 1 + 1, k - 16, none⟩ = some (.int .u32 x0) := by rw [← hwq]; exact c0
        have d2 : wq.cell? ⟨w.heap.size + 1 + 1 + 1, k - 7, none⟩ = some (.int .u32 x2) := by rw [← hwq]; exact c2
        have da : wq.cell? ⟨w.heap.size + 1 + 1 + 1, k, none⟩ = some (.int .u32 0) := by rw [← hwq]; exact ca
        have fd : wq.frozen? ⟨w.heap.size + 1 + 1 + 1, k, none⟩ = false := by rw [← hwq]; exact fa
        have Hwq := Lib.hid hwq; clear hwq c0 c1 c2 c3 ca fa
        go_still_tail 15, (by kernel_rfl)
        go_wp2
        go_roundw
        case rel =>
          refine RfRel.drewN (rf_step h64 hg0 ?_ ?_ ?_ Hr.out ?_ ?_ ?_ ?_) 1
          · rw [← Hwq.out]; exact H1.out
          · rw [← Hwq.out]; exact HB.out
          · rw [← Hwq.out]; exact HA.out
          · rw [← Hwq.out]; exact HR.out
          · rw [← Hwq.out]; exact below_drewN Hbe.out _
          · rw [← Hwq.out]; exact Hkey.out
          · obtain ⟨rfl, rfl, rfl, rfl⟩ := HX.out
            simp only [Wl, if_neg (show ¬ k < 16 by omega), next, nextw, sg0, sg1, add, xor, Int.emod_add_emod]
        case measure => simp [intOf]; omega
    · have hk64 : k = 64 := by omega
      subst hk64
      have hsz := hbe.size
      rw [arr_full _ _ (Wl_length _ _)] at hA
      have hz : w.heap.size + 1 + 1 + 1 < wr.heap.size := (Array.getElem?_eq_some_iff.1 hA).1
      have H1 := Lib.hid h1; have HA := Lib.hid hA; have HR := Lib.hid hR; have Hr := Lib.hid hr; have Hbe := Lib.hid hbe; have Hkey := Lib.hid hkey
      clear h1 hA hB hR hr hbe hkey h64 hk
      rw [show ((64 : Nat) : Int) = 64 from rfl]
      have I29 := Lib.hid (show (Tryd.prog.info? 29).map (·.size) = some (row st).size by rw [row_size, Hh.out]; kernel_rfl)
      go_wp2_with (first | (refine wpList_load_row rfl 29 _ rfl _ rfl 29 _ _ _ H1.out Tryd.underlying29 rfl I29.out ?_) | (refine wpList_store_row rfl 29 _ _ rfl _ _ rfl rfl 29 _ (heap_alloc_new wr _) I29.out (by rw [row_size, Hh.out]; rfl) (row_one _) ?_; rw [World.setRow_alloc_new]))
      have H1' := Lib.hid ((Below.heap_alloc wr (.cells (row st) 29) w.heap.size (by omega)).trans H1.out)
      have H2' := Lib.hid ((Below.heap_alloc wr (.cells (row st) 29) (w.heap.size + 1 + 1) (by omega)).trans HR.out)
      have H3' := Lib.hid ((Below.heap_alloc wr (.cells (row st) 29) (w.heap.size + 1 + 1 + 1) (by omega)).trans HA.out)
      have HB' := Lib.hid (Hbe.out.alloc hsz (.cells (row st) 29))
      have HG' := Lib.hid (Hkey.out.below (B := wr.heap.size) ((Below.refl _ _).alloc (Nat.le_refl _) (.cells (row st) 29)) Hkey.out.1)
      clear H1 HA HR Hbe Hkey
      have hN := Lib.hid (heap_alloc_new wr (.cells (row st) 29))
      obtain ⟨bs, hbs⟩ : ∃ n, wr.heap.size = n := ⟨_, rfl⟩
      rw [hbs] at hz hN ⊢
      clear hbs hsz
      go_loopw [12] (fun i wr => RdRel 1 w.heap.size w st b 64 w.heap.size (w.heap.size + 1 + 1) (w.heap.size + 1 + 1 + 1) bs (rounds KK (Wl b 64) st) i wr) (fun i _ => 64 - (intOf i).toNat)
      case atStart => exact ⟨0, by omega, rfl, H1'.out, H3'.out, hN.out, ⟨_, Hr.out, H2'.out⟩, HB'.out, HG'.out⟩
      case round =>
        clear H1' H2' H3' HB' HG' hN Hr
        obtain ⟨k, hk, rfl, h1, h2, h3, ⟨r, hr, h4⟩, hbe, hkey⟩ := hrel
        by_cases hlt : k < 64
        · obtain ⟨sa, sb, sc, sd, se, sf, sg, sh, hs, c0, c1, c2, c3, c4, c5, c6, c7⟩ := cells8 (rounds_length _ _ _ Hh.out k) h3
          have kc := hkey.2 k hlt
          have wc := cell_of_row wr _ k _ _ _ h2
          rw [row_get _ _ (by rw [Wl_length]; exact hlt)] at wc
          obtain ⟨kv, hkv⟩ : ∃ x, x = KK.getD k 0 := ⟨_, rfl⟩
          obtain ⟨wv, hwv⟩ : ∃ x, x = (Wl b 64).getD k 0 := ⟨_, rfl⟩
          rw [← hkv] at kc; rw [← hwv] at wc
          have HX := Lib.hid (And.intro hkv (And.intro hwv hs)); clear hkv hwv hs
          have H1 := Lib.hid h1; have H2 := Lib.hid h2; have H3 := Lib.hid h3; have Hr := Lib.hid hr; have H4 := Lib.hid h4; have Hbe := Lib.hid hbe; have Hkey := Lib.hid hkey
          clear h1 h2 h3 hr h4 hbe hkey
          have gk : (↑k : Int) < 64 := by omega
          go_wp2_with fail
          go_quiet (fail)
          go_wp2_with fail
          generalize hwq : wr.drewN _ = wq
          have d0 : wq.cell? ⟨bs, 0, none⟩ = some (.int .u32 sa) := by rw [← hwq]; exact c0
          have d1 : wq.cell? ⟨bs, 1, none⟩ = some (.int .u32 sb) := by rw [← hwq]; exact c1
          have d2 : wq.cell? ⟨bs, 2, none⟩ = some (.int .u32 sc) := by rw [← hwq]; exact c2
          have d3 : wq.cell? ⟨bs, 3, none⟩ = some (.int .u32 sd) := by rw [← hwq]; exact c3
          have d5 : wq.cell? ⟨bs, 5, none⟩ = some (.int .u32 sf) := by rw [← hwq]; exact c5
          have d6 : wq.cell? ⟨bs, 6, none⟩ = some (.int .u32 sg) := by rw [← hwq]; exact c6
          have d7 : wq.cell? ⟨bs, 7, none⟩ = some (.int .u32 sh) := by rw [← hwq]; exact c7
          have dk : wq.cell? ⟨1, k, none⟩ = some (.int .u32 kv) := by rw [← hwq]; exact kc
          have dw : wq.cell? ⟨w.heap.size + 1 + 1 + 1, k, none⟩ = some (.int .u32 wv) := by rw [← hwq]; exact wc
          have E1 := Lib.hid (show wq.heap[w.heap.size]? = some (.cells (row st) 29 (0, 0)) by rw [← hwq]; exact H1.out)
          have E2 := Lib.hid (show wq.heap[w.heap.size + 1 + 1 + 1]? = some (.cells (row (Wl b 64)) 36 (0, 0)) by rw [← hwq]; exact H2.out)
          have E3 := Lib.hid (show wq.heap[bs]? = some (.cells (row (rounds KK (Wl b 64) st k)) 29 (0, 0)) by rw [← hwq]; exact H3.out)
          have E4 := Lib.hid (show wq.heap[w.heap.size + 1 + 1]? = some (.cells r 29 (0, 0)) by rw [← hwq]; exact H4.out)
          have Eb := Lib.hid (show Below _ _ wq by rw [← hwq]; exact below_drewN Hbe.out _)
          have Ek := Lib.hid (show Keys _ wq by rw [← hwq]; exact Hkey.out)
          clear hwq c0 c1 c2 c3 c4 c5 c6 c7 kc wc H1 H2 H3 H4 Hbe Hkey
          go_quiet ((first | (go_at_call 17; (with_reducible exact trn6_q _ _ _)) | (go_at_call 17; (with_reducible exact trn11_q _ _ _)) | (go_at_call 17; (with_reducible exact trn25_q _ _ _))))
          go_wp2_with fail
          have F0 := d0
          generalize hwq : wq.drewN _ = wv2
          have e1 : wv2.cell? ⟨bs, 1, none⟩ = some (.int .u32 sb) := by rw [← hwq]; exact d1
          have e2 : wv2.cell? ⟨bs, 2, none⟩ = some (.int .u32 sc) := by rw [← hwq]; exact d2
          have e3 : wv2.cell? ⟨bs, 3, none⟩ = some (.int .u32 sd) := by rw [← hwq]; exact d3
          have e5 : wv2.cell? ⟨bs, 5, none⟩ = some (.int .u32 sf) := by rw [← hwq]; exact d5
          have e6 : wv2.cell? ⟨bs, 6, none⟩ = some (.int .u32 sg) := by rw [← hwq]; exact d6
          have G1 := Lib.hid (show wv2.heap[w.heap.size]? = some (.cells (row st) 29 (0, 0)) by rw [← hwq]; exact E1.out)
          have G2 := Lib.hid (show wv2.heap[w.heap.size + 1 + 1 + 1]? = some (.cells (row (Wl b 64)) 36 (0, 0)) by rw [← hwq]; exact E2.out)
          have G3 := Lib.hid (show wv2.heap[bs]? = some (.cells (row (rounds KK (Wl b 64) st k)) 29 (0, 0)) by rw [← hwq]; exact E3.out)
          have G4 := Lib.hid (show wv2.heap[w.heap.size + 1 + 1]? = some (.cells r 29 (0, 0)) by rw [← hwq]; exact E4.out)
          have Gb := Lib.hid (show Below _ _ wv2 by rw [← hwq]; exact below_drewN Eb.out _)
          have Gk := Lib.hid (show Keys _ wv2 by rw [← hwq]; exact Ek.out)
          clear hwq d0 d1 d2 d3 d5 d6 d7 dk dw F0 E1 E2 E3 E4 Eb Ek
          go_quiet ((first | (go_at_call 17; (with_reducible exact trn2_q _ _ _)) | (go_at_call 17; (with_reducible exact trn13_q _ _ _)) | (go_at_call 17; (with_reducible exact trn22_q _ _ _))))
          go_wp2_with (refine wpList_store_row (o := ⟨none, .store 29 (.tmp 11) (.tmp 174), _, _, _, _⟩) rfl 29 _ _ rfl bs ?cells ?hx ?hy 29 (row (rounds KK (Wl b 64) st k)) ?hg ?hi ?ho ?h1 ?hk; (case hx => rfl); (case hy => exact rfl); (case hg => exact G3.out); (case hi => exact I8.out); (case ho => (rw [row_size, rounds_length _ _ _ Hh.out]; rfl)); (case h1 => simp [Value.oneCell']))
          go_roundw
          case rel =>
            obtain ⟨hkv, hwv, hs⟩ := HX.out
            refine RdRel.step (wr := wv2.drewN _) hlt (by omega) (by omega) (by omega) (by omega) hg0 G1.out G2.out G3.out Hr.out G4.out (below_drewN Gb.out _) Gk.out ?_
            have hmax : IntKind.u32.max = 4294967295 := rfl
            rw [hmax]
            simp only [rounds, hs, ← hkv, ← hwv, rstep, row, t1f, t2f, up0, up1, add, xor, and, List.getD_cons_zero, List.getD_cons_succ, List.map_cons, List.map_nil, Int.emod_add_emod, Int.add_emod_emod]
          case measure => simp [intOf]; omega
        · have hk64 : k = 64 := by omega
          subst hk64
          have H1 := Lib.hid h1; have H2 := Lib.hid h2; have H3 := Lib.hid h3; have Hr := Lib.hid hr; have H4 := Lib.hid h4; have Hbe := Lib.hid hbe; have Hkey := Lib.hid hkey
          clear h1 h2 h3 hr h4 hbe hkey hlt hk
          rw [show ((64 : Nat) : Int) = 64 from rfl]
          go_wp2_with fail
          obtain ⟨rs, hrs⟩ : ∃ x, x = rounds KK (Wl b 64) st 64 := ⟨_, rfl⟩
          have hrl : rs.length = 8 := by rw [hrs]; exact rounds_length _ _ _ Hh.out _
          have Hrs := Lib.hid hrs; have Hrl := Lib.hid hrl; clear hrs hrl
          go_loopw [17] (fun i wr => RdRel 1 w.heap.size w st b 8 w.heap.size (w.heap.size + 1 + 1) (w.heap.size + 1 + 1 + 1) bs (plus rs st) i wr) (fun i _ => 8 - (intOf i).toNat)
          case atStart => exact ⟨0, by omega, rfl, H1.out, H2.out, by rw [plus_zero _ _ Hrl.out, Hrs.out]; exact H3.out, ⟨_, Hr.out, H4.out⟩, Hbe.out, Hkey.out⟩
          case round =>
            clear H1 H2 H3 H4 Hr Hbe Hkey
            obtain ⟨k, hk, rfl, h1, h2, h3, ⟨r2, hr, h4⟩, hbe, hkey⟩ := hrel
            by_cases hlt : k < 8
            · have c0 := cell_of_row wr _ k _ _ _ h3
              have f0 := frozen_of_row wr _ k _ _ h3
              have c1 := cell_of_row wr _ k _ _ _ h1
              rw [row_get _ _ (by rw [plus_length]; exact hlt)] at c0
              rw [row_get _ _ (by rw [Hh.out]; exact hlt)] at c1
              obtain ⟨sv, hsv⟩ : ∃ x, x = (plus rs st k).getD k 0 := ⟨_, rfl⟩
              obtain ⟨hv, hhv⟩ : ∃ x, x = st.getD k 0 := ⟨_, rfl⟩
              rw [← hsv] at c0; rw [← hhv] at c1
              have HX := Lib.hid (And.intro hsv hhv); clear hsv hhv
              have H1 := Lib.hid h1; have H2 := Lib.hid h2; have H3 := Lib.hid h3; have Hr := Lib.hid hr; have H4 := Lib.hid h4; have Hbe := Lib.hid hbe; have Hkey := Lib.hid hkey
              clear h1 h2 h3 hr h4 hbe hkey
              have gk : (↑k : Int) < 8 := by omega
              go_wp2_with fail
              go_still_tail 9, (by kernel_rfl)
              go_wp2
              go_roundw
              case rel =>
                obtain ⟨hsv, hhv⟩ := HX.out
                refine RdRel.drewN ?_ 1
                rw [setCell_eq_setRow wr _ _ _ _ _ _ H3.out]
                refine RdRel.step hlt (by omega) (by omega) (by omega) (by omega) hg0 H1.out H2.out H3.out Hr.out H4.out Hbe.out Hkey.out ?_
                rw [row_set, ← plus_set, hsv, hhv, plus_getD _ _ _ _ hlt, if_neg (by omega)]
                rfl
              case measure => simp [intOf]; omega
            · have hk8 : k = 8 := by omega
              subst hk8
              have H1 := Lib.hid h1; have H2 := Lib.hid h2; have H3 := Lib.hid h3; have Hr := Lib.hid hr; have H4 := Lib.hid h4; have Hbe := Lib.hid hbe; have Hkey := Lib.hid hkey
              clear h1 h2 h3 hr h4 hbe hkey hlt hk
              have I29' := Lib.hid (show (Tryd.prog.info? 29).map (·.size) = some (row (plus rs st 8)).size by rw [row_size, plus_length]; exact I8.out)
              go_wp2_with (first | (refine wpList_load_row rfl 29 _ rfl _ rfl 29 _ _ _ H3.out Tryd.underlying29 rfl I29'.out ?_) | (refine wpList_store_row rfl 29 _ _ rfl _ _ rfl rfl 29 _ H4.out I29'.out (by rw [row_size, plus_length]; exact Hr.out) (row_one _) ?_))
              have hs29 := setRow_heap _ _ _ (row (plus rs st 8)) _ _ H4.out
              refine bodyPost_ret (results_cell_row rfl _ _ (w.heap.size + 1 + 1) 29 _ _ _ rfl hs29 Tryd.underlying29 rfl I29'.out) rfl ⟨?_, ?_⟩
              · rw [roundF, ← Hrs.out]
              · exact below_setRow Hbe.out (by omega) _
end Sha
end Go.Proofs.YteldcnllpokfdaaDoor
