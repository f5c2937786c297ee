/- The walk of ShaWhole: whatever bytes come in, the law returns true, and what was there before the call is as it was. Conditions: the bytes are read at the slice that came in; the table of keys holds what its initialiser lays. -/
import Derived.Test.YteldcnllpokfdaaDoorRuns
namespace Go.Proofs.YteldcnllpokfdaaDoor
namespace Sha
open Go.RowKit
set_option maxHeartbeats 4000000
set_option maxRecDepth 1000000

theorem I29 : (Tryd.prog.info? 29).map (·.size) = some 8 := by kernel_rfl
theorem I22 : (Tryd.prog.info? 22).map (·.size) = some 32 := by kernel_rfl
theorem first_any (w : World) : Calls Tryd.prog 14 #[] w fun e w' => e = .returned (.agg (row IV)) ∧ Below w.heap.size w w' := by
  go_enter Tryd.func14, Tryd.ntmps14
  go_wp2_with fail
  exact bodyPost_ret (results_cell_row rfl _ _ w.heap.size 29 (row IV) (0, 0) _ rfl (heap_alloc_new w _) Tryd.underlying29 rfl (by rw [row_size]; exact I29)) rfl ⟨rfl, (Below.refl _ _).alloc (Nat.le_refl _) _⟩
theorem copy_blk (W : World) (g : Nat) (t : TypeId) (L : List Int) (hg : W.heap[g]? = some (.cells (bytes L) t (0, 0))) (hL : L.length = 64) (bp cap : Nat) (p : List Int) (o : Nat) (hp : W.heap[bp]? = some (.cells (bytes p) 5 (0, 0))) (ho : o + 64 ≤ p.length) :
    (Builtin.copy_ #[24, 24] 3 #[.slice (some ⟨g, 0, none⟩) 64 64, .slice (some ⟨bp, o, none⟩) 64 cap]).run Tryd.prog W = .ok (.int .i64 64) (W.setRow g (bytes ((p.drop o).take 64))) := by
  have hz : (Tryd.prog.info? 5).map (·.size) = some 1 := by kernel_rfl
  have hl : ((p.drop o).take 64).length = 64 := by simp; omega
  have hrun := run_copy_row (P := Tryd.prog) W 24 24 3 5 g 0 64 64 ⟨bp, o, none⟩ 64 cap (bytes L) t (((p.drop o).take 64).map (.int .u8)) Tryd.underlying24 hz hg (by rw [List.length_map, hl]; rfl)
    (fun j v hv => cell_part W bp 5 (0, 0) p o 64 hp j v hv) (by rw [List.length_map, hl, bytes_size, hL]; omega) (fun v hv => by
      obtain ⟨x, _, rfl⟩ := List.mem_map.1 hv
      rfl)
  rw [hrun, List.length_map, hl]
  congr 2
  have e : (bytes L).toList.drop (0 + 64) = [] := List.drop_of_length_le (by simp [bytes, hL])
  rw [e]
  simp [bytes]
def z64 : List Int := List.replicate 64 0
theorem z64_lit : bytes z64 = #[.int .u8 0, .int .u8 0, .int .u8 0, .int .u8 0, .int .u8 0, .int .u8 0, .int .u8 0, .int .u8 0, .int .u8 0, .int .u8 0, .int .u8 0, .int .u8 0, .int .u8 0, .int .u8 0, .int .u8 0, .int .u8 0, .int .u8 0, .int .u8 0, .int .u8 0, .int .u8 0, .int .u8 0, .int .u8 0, .int .u8 0, .int .u8 0, .int .u8 0, .int .u8 0, .int .u8 0, .int .u8 0, .int .u8 0, .int .u8 0, .int .u8 0, .int .u8 0, .int .u8 0, .int .u8 0, .int .u8 0, .int .u8 0, .int .u8 0, .int .u8 0, .int .u8 0, .int .u8 0, .int .u8 0, .int .u8 0, .int .u8 0, .int .u8 0, .int .u8 0, .int .u8 0, .int .u8 0, .int .u8 0, .int .u8 0, .int .u8 0, .int .u8 0, .int .u8 0, .int .u8 0, .int .u8 0, .int .u8 0, .int .u8 0, .int .u8 0, .int .u8 0, .int .u8 0, .int .u8 0, .int .u8 0, .int .u8 0, .int .u8 0, .int .u8 0] := rfl
def WhRel (w : World) (bs : List Int) (n bp bh : Nat) (v : Value) (wr : World) : Prop :=
  ∃ k : Nat, k ≤ n ∧ v = .int .i64 (64 * ↑k) ∧ wr.heap[bp]? = some (.cells (bytes (padF bs)) 5 (0, 0)) ∧ wr.heap[bh]? = some (.cells (row (hashK (padF bs) k)) 29 (0, 0)) ∧ Below w.heap.size w wr ∧ Keys 0 wr

theorem wrap8 (a : Int) : IntKind.u8.wrap a = a % 256 := by
  have h1 : IntKind.u8.signed = false := rfl
  have h2 : IntKind.u8.bits = 8 := rfl
  simp [IntKind.wrap, h1, h2]
theorem wrap64in (a : Int) (h0 : 0 ≤ a) (h : a ≤ 1000) : IntKind.u64.wrap a = a := by
  have h1 : IntKind.u64.signed = false := rfl
  have h2 : IntKind.u64.bits = 64 := rfl
  simp [IntKind.wrap, h1, h2]
  omega
def CmRel (w : World) (hs D : List Int) (bh bd : Nat) (v : Value) (wr : World) : Prop :=
  ∃ k : Nat, k ≤ 32 ∧ v = .int .i64 ↑k ∧ wr.heap[bd]? = some (.cells (bytes D) 22 (0, 0)) ∧ wr.heap[bh]? = some (.cells (row hs) 29 (0, 0)) ∧ Below w.heap.size w wr ∧ Keys 0 wr

theorem whole_any (bs : List Int) (A : Option Addr) (c : Nat) (w : World) (hlen : bs.length ≤ 9223372036854775807) (hs : Src w A bs) (hk : Keys 0 w) :
    Calls Tryd.prog 8 #[.slice A bs.length c] w fun e w' => e = .returned (.bool true) ∧ Below w.heap.size w w' := by
  have Hs := Lib.hid hs; have Hk := Lib.hid hk; clear hs hk
  have hg0 := Hk.out.1
  obtain ⟨n, hn⟩ : ∃ n, bs.length = n := ⟨_, rfl⟩
  rw [hn] at hlen ⊢
  by_cases h3 : 300 < n
  · clear hn
    go_enter Tryd.func8, Tryd.ntmps8
    go_wp2_with (go_at_call 3; (with_reducible refine (runs_any _ Hk.out).mono ?_); rintro e w1 ⟨rfl, hb⟩; have Hb := Lib.hid hb; clear hb)
    go_ret
    exact ⟨rfl, Hb.out⟩
  · have hpad := fun (W : World) (hS : Src W A bs) => pad_any bs A c W (by omega) hS
    have hof := fun (W : World) (hS : Src W A bs) (hK : Keys 0 W) => of_any bs A c W (by omega) hS hK
    obtain ⟨m, hM, hm0, hm1⟩ := padF_blocks bs
    rw [hM] at hpad
    rw [hn] at hpad hof hm1
    have Hpad := Lib.hid hpad; have Hof := Lib.hid hof; have Hn := Lib.hid hn; have HM := Lib.hid hM
    clear hpad hof hn hM
    have h3b : decide ((300 : Int) < ↑n) = false := by rw [decide_eq_false_iff_not]; omega
    go_enter Tryd.func8, Tryd.ntmps8
    go_wp2_with fail
    refine (Hpad.out _ Hs.out).mono ?_
    rintro e w1 ⟨rfl, hp, hb⟩
    have hz1 : w.heap.size < w1.heap.size := (Array.getElem?_eq_some_iff.1 hp).1
    have HP := Lib.hid hp; have Hb := Lib.hid hb; clear hp hb
    have e1 : (64 * (m : Int)) % 64 = 0 := by omega
    have e2 : (64 * (m : Int)).tmod 64 = 0 := by rw [Int.tmod_eq_emod_of_nonneg (by omega)]; omega
    have t2 : decide ((n : Int) + 80 < 64 * (m : Int)) = false := by rw [decide_eq_false_iff_not]; omega
    go_wp2_with fail
    refine (first_any w1).mono ?_
    rintro e w2 ⟨rfl, hb2⟩
    have Hb2 := Lib.hid hb2; have HP2 := Lib.hid ((hb2.block _ hz1).trans HP.out); have hz2 := hb2.size
    clear hb2
    go_wp2_with (refine wpList_store_row rfl 29 _ _ rfl _ _ rfl rfl 29 _ (heap_alloc_new w2 _) I29 (by rw [row_size]; rfl) (row_one IV) ?_; rw [World.setRow_alloc_new])
    have hS : WhRel w bs m w.heap.size w2.heap.size (.int .i64 0) (w2.alloc (.cells (row IV) 29)) := by
      have B2 : Below w.heap.size w w2 := Hb.out.trans (Hb2.out.mono Hb.out.size)
      exact ⟨0, by omega, by simp, (Below.heap_alloc w2 _ _ (by omega)).trans HP2.out, heap_alloc_new _ _, B2.alloc (B2.size) _, (Hk.out.below B2 hg0).below ((Below.refl _ _).alloc (Nat.le_refl _) _) (by have := B2.size; omega)⟩
    have hbn : w.heap.size < w2.heap.size := by omega
    have HS := Lib.hid hS; clear hS
    clear e1 e2 t2 HP HP2 Hb Hb2 hz1 hz2
    obtain ⟨bh, hbh⟩ : ∃ x, w2.heap.size = x := ⟨_, rfl⟩
    rw [hbh] at HS hbn ⊢
    clear hbh
    go_loopw [5] (fun v wr => WhRel w bs m w.heap.size bh v wr) (fun v _ => 64 * m - (intOf v).toNat)
    case atStart => exact HS.out
    case round =>
      clear HS
      obtain ⟨k, hk, rfl, hp, hh, hbe, hkey⟩ := hrel
      by_cases hlt : k < m
      · have t1 : (64 : Int) * ↑k + 64 ≤ 64 * ↑m := by omega
        have t2 : (64 : Int) * ↑k ≤ 64 * ↑k + 64 := by omega
        have t3 : (0 : Int) ≤ 64 * ↑k := by omega
        have t4 : (0 : Int) ≤ 64 * ↑k + 64 := by omega
        have n1 : ((64 : Int) * ↑k).toNat = 64 * k := by omega
        have n2 : ((64 : Int) * ↑k + 64).toNat = 64 * k + 64 := by omega
        have n3 : 64 * k + 64 ≤ 64 * m := by omega
        have n4 : 64 * k ≤ 64 * k + 64 := by omega
        have n5 : ¬ (64 * m = 64 * k) := by omega
        have x1 : IntKind.i64.wrap (64 * ↑k + 64) = 64 * ↑k + 64 := IntWalk.i64_in _ (by omega)
        have HP := Lib.hid hp; have HH := Lib.hid hh; have Hbe := Lib.hid hbe; have Hkey := Lib.hid hkey
        clear hp hh hbe hkey
        go_wp2_with fail
        go_still_tail 6, (by kernel_rfl)
        have hl64 : (((padF bs).drop (64 * k)).take 64).length = 64 := by simp [HM.out]; omega
        have hl8 := hashK_length (padF bs) k
        have hz0 : w.heap.size < wr.heap.size := (Array.getElem?_eq_some_iff.1 HP.out).1
        have hz1 : bh < wr.heap.size := (Array.getElem?_eq_some_iff.1 HH.out).1
        have hcp0 := copy_blk ((wr.alloc (.cells (bytes z64) 30)).drew) wr.heap.size 30 z64 (heap_alloc_new _ _) rfl w.heap.size (64 * m - 64 * k) (padF bs) (64 * k)
          ((Below.heap_alloc wr _ _ hz0).trans HP.out) (by rw [HM.out]; omega)
        have hsr : ((wr.alloc (.cells (bytes z64) 30)).drew).setRow wr.heap.size (bytes (((padF bs).drop (64 * k)).take 64)) = (wr.alloc (.cells (bytes (((padF bs).drop (64 * k)).take 64)) 30)).drew :=
          congrArg World.drew (World.setRow_alloc_new wr (bytes z64) (bytes (((padF bs).drop (64 * k)).take 64)) 30)
        rw [hsr] at hcp0
        obtain ⟨blk, hblk⟩ : ∃ x, ((padF bs).drop (64 * k)).take 64 = x := ⟨_, rfl⟩
        obtain ⟨hs, hhs⟩ : ∃ x, hashK (padF bs) k = x := ⟨_, rfl⟩
        rw [hblk] at hcp0 hl64
        rw [hhs] at hl8
        have Hx := Lib.hid (And.intro hblk hhs); have Hl64 := Lib.hid hl64; have Hl8 := Lib.hid hl8
        clear hblk hhs hsr hl64 hl8 x1 n5
        change wpList _ _ _ _ _ ((wr.alloc (.cells #[.int .u8 0, .int .u8 0, .int .u8 0, .int .u8 0, .int .u8 0, .int .u8 0, .int .u8 0, .int .u8 0, .int .u8 0, .int .u8 0, .int .u8 0, .int .u8 0, .int .u8 0, .int .u8 0, .int .u8 0, .int .u8 0, .int .u8 0, .int .u8 0, .int .u8 0, .int .u8 0, .int .u8 0, .int .u8 0, .int .u8 0, .int .u8 0, .int .u8 0, .int .u8 0, .int .u8 0, .int .u8 0, .int .u8 0, .int .u8 0, .int .u8 0, .int .u8 0, .int .u8 0, .int .u8 0, .int .u8 0, .int .u8 0, .int .u8 0, .int .u8 0, .int .u8 0, .int .u8 0, .int .u8 0, .int .u8 0, .int .u8 0, .int .u8 0, .int .u8 0, .int .u8 0, .int .u8 0, .int .u8 0, .int .u8 0, .int .u8 0, .int .u8 0, .int .u8 0, .int .u8 0, .int .u8 0, .int .u8 0, .int .u8 0, .int .u8 0, .int .u8 0, .int .u8 0, .int .u8 0, .int .u8 0, .int .u8 0, .int .u8 0, .int .u8 0] 30)).drew)
        have hcp : (Builtin.copy_ #[24, 24] 3 #[.slice (some ⟨wr.heap.size, 0, none⟩) 64 64, .slice (some ⟨w.heap.size, 64 * k, none⟩) 64 (64 * m - 64 * k)]).run Tryd.prog ((wr.alloc (.cells #[.int .u8 0, .int .u8 0, .int .u8 0, .int .u8 0, .int .u8 0, .int .u8 0, .int .u8 0, .int .u8 0, .int .u8 0, .int .u8 0, .int .u8 0, .int .u8 0, .int .u8 0, .int .u8 0, .int .u8 0, .int .u8 0, .int .u8 0, .int .u8 0, .int .u8 0, .int .u8 0, .int .u8 0, .int .u8 0, .int .u8 0, .int .u8 0, .int .u8 0, .int .u8 0, .int .u8 0, .int .u8 0, .int .u8 0, .int .u8 0, .int .u8 0, .int .u8 0, .int .u8 0, .int .u8 0, .int .u8 0, .int .u8 0, .int .u8 0, .int .u8 0, .int .u8 0, .int .u8 0, .int .u8 0, .int .u8 0, .int .u8 0, .int .u8 0, .int .u8 0, .int .u8 0, .int .u8 0, .int .u8 0, .int .u8 0, .int .u8 0, .int .u8 0, .int .u8 0, .int .u8 0, .int .u8 0, .int .u8 0, .int .u8 0, .int .u8 0, .int .u8 0, .int .u8 0, .int .u8 0, .int .u8 0, .int .u8 0, .int .u8 0, .int .u8 0] 30)).drew) = .ok (.int .i64 64) ((wr.alloc (.cells (bytes blk) 30)).drew) := by
          rw [z64_lit] at hcp0; exact hcp0
        clear hcp0
        have E1 := Lib.hid ((Below.heap_alloc wr (.cells (bytes blk) 30) _ hz1).trans HH.out)
        have E2 := Lib.hid (heap_alloc_new wr (.cells (bytes blk) 30))
        have I29' := Lib.hid (show (Tryd.prog.info? 29).map (·.size) = some (row (hashK (padF bs) k)).size by rw [row_size, hashK_length]; exact I29)
        have I30' := Lib.hid (show (Tryd.prog.info? 30).map (·.size) = some (bytes blk).size by rw [bytes_size, Hl64.out]; exact I30)
        go_wp2_with (first | (refine wpList_load_row (o := ⟨some 42, .load 29 (.tmp 4), _, _, _, _⟩) rfl 29 _ rfl bh ?hx 29 (row (hashK (padF bs) k)) (0, 0) _ ?hg Tryd.underlying29 rfl I29'.out ?hk; (case hx => rfl); (case hg => exact E1.out)) | (refine wpList_load_row (o := ⟨some 43, .load 30 (.tmp 6), _, _, _, _⟩) rfl 30 _ rfl wr.heap.size ?hx3 30 (bytes blk) (0, 0) _ ?hg3 Tryd.underlying30 rfl I30'.out ?hk3; (case hx3 => rfl); (case hg3 => exact E2.out)))
        have hkk : hashK (padF bs) k = hs := Hx.out.2
        rw [hkk] at E1 I29' ⊢
        have kD : Keys 0 ((wr.alloc (.cells (bytes blk) 30)).drew) := Hkey.out.below (B := wr.heap.size) (below_drewN ((Below.refl _ _).alloc (Nat.le_refl _) _) 1) Hkey.out.1
        refine (rnd_any hs blk _ Hl8.out Hl64.out kD).mono ?_
        rintro e w3 ⟨rfl, hb3⟩
        have hb3' : Below wr.heap.size wr w3 := (below_drewN ((Below.refl wr.heap.size wr).alloc (Nat.le_refl _) (.cells (bytes blk) 30)) 1).trans (hb3.mono (by show wr.heap.size ≤ (wr.alloc _).heap.size; rw [size_al]; omega))
        have hp3 := Lib.hid ((hb3'.block _ hz0).trans HP.out)
        have hh3 := Lib.hid ((hb3'.block _ hz1).trans HH.out)
        have hB3 := Lib.hid (Hbe.out.trans (hb3'.mono Hbe.out.size))
        have hK3 := Lib.hid (Hkey.out.below hb3' Hkey.out.1)
        clear hb3 hb3' kD hcp E1 E2 HP HH Hbe Hkey I29' I30' hkk
        have I29' := Lib.hid (show (Tryd.prog.info? 29).map (·.size) = some (row (roundF KK hs blk)).size by rw [row_size, roundF_length]; exact I29)
        go_wp2_with (refine wpList_store_row (o := ⟨none, .store 29 (.tmp 4) (.tmp 44), _, _, _, _⟩) rfl 29 _ _ rfl bh (row (roundF KK hs blk)) ?hx4 ?hy4 29 (row (hashK (padF bs) k)) ?hg4 I29'.out ?ho4 (row_one _) ?hk4; (case hx4 => rfl); (case hy4 => rfl); (case hg4 => exact hh3.out); (case ho4 => rw [row_size, row_size, roundF_length, hashK_length]))
        go_roundw
        case rel =>
          refine ⟨k + 1, by omega, by go_num, ?_, ?_, below_setRow hB3.out (by omega) _, hK3.out.below (B := w.heap.size) (below_setRow (Below.refl _ _) (by omega) _) hg0⟩
          · rw [setRow_other _ _ _ _ (by omega)]; exact hp3.out
          · rw [setRow_heap _ _ _ _ _ _ hh3.out, ← Hx.out.1, ← Hx.out.2]; rfl
        case measure => simp [intOf]; omega
      · have hkm : k = m := by omega
        subst hkm
        have t1 : ¬ ((64 : Int) * ↑k + 64 ≤ 64 * ↑k) := by omega
        have t2 : decide ((64 : Int) * ↑k + 64 ≤ 64 * ↑k) = false := by rw [decide_eq_false_iff_not]; omega
        have hout : ∀ i, i < 32 → (OfF bs).getD i 0 = outF (hashK (padF bs) k) i := fun i hi => by
          unfold OfF
          rw [HM.out, Nat.mul_div_cancel_left _ (by omega), List.getD_eq_getElem?_getD, List.getElem?_map, List.getElem?_range hi]
          rfl
        have hl32 : (OfF bs).length = 32 := by simp [OfF]
        obtain ⟨hs, hhs⟩ : ∃ x, hashK (padF bs) k = x := ⟨_, rfl⟩
        have hl8 := hashK_length (padF bs) k
        rw [hhs] at hh hout hl8
        have hz1 : bh < wr.heap.size := (Array.getElem?_eq_some_iff.1 hh).1
        have HH := Lib.hid hh; have Hbe := Lib.hid hbe; have Hkey := Lib.hid hkey; have Hout := Lib.hid hout; have Hl32 := Lib.hid hl32; have Hl8 := Lib.hid hl8
        clear hp hh hbe hkey hout hl32 hl8 hhs hlt hk
        go_wp2_with fail
        refine (Hof.out _ (Hs.out.below (Hbe.out.mono (Nat.le_refl _))) Hkey.out).mono ?_
        rintro e w4 ⟨rfl, hb4⟩
        have HH4 := Lib.hid ((hb4.block _ hz1).trans HH.out)
        have HB4 := Lib.hid (Hbe.out.trans (hb4.mono Hbe.out.size))
        have HK4 := Lib.hid (Hkey.out.below hb4 Hkey.out.1)
        have hz4 := hb4.size
        obtain ⟨D, hD⟩ : ∃ x, OfF bs = x := ⟨_, rfl⟩
        rw [hD] at Hout Hl32 ⊢
        have I22' := Lib.hid (show (Tryd.prog.info? 22).map (·.size) = some (bytes D).size by rw [bytes_size, Hl32.out]; exact I22)
        clear hb4 hD HH Hbe Hkey t1 t2
        go_wp2_with (refine wpList_store_row (o := ⟨none, .store 22 (.tmp 7) (.tmp 46), _, _, _, _⟩) rfl 22 _ _ rfl w4.heap.size (bytes D) ?hx5 ?hy5 22 (bytes (List.replicate 32 0)) ?hg5 I22'.out ?ho5 (bytes_one _) ?hk5; (case hx5 => rfl); (case hy5 => rfl); (case hg5 => exact heap_alloc_new _ _); (case ho5 => rw [bytes_size, bytes_size, Hl32.out]; rfl))
        have hC : CmRel w hs D bh w4.heap.size (.int .i64 0) ((w4.alloc (.cells (bytes (List.replicate 32 0)) 22)).setRow w4.heap.size (bytes D)) := by
          have Ba : Below w4.heap.size w4 ((w4.alloc (.cells (bytes (List.replicate 32 0)) 22)).setRow w4.heap.size (bytes D)) := below_setRow ((Below.refl _ _).alloc (Nat.le_refl _) _) (Nat.le_refl _) _
          exact ⟨0, by omega, rfl, setRow_heap _ _ _ _ _ _ (heap_alloc_new _ _), (Ba.block _ (by omega)).trans HH4.out, HB4.out.trans (Ba.mono HB4.out.size), HK4.out.below Ba HK4.out.1⟩
        have HC := Lib.hid hC
        clear hC HH4 HB4 HK4 I22'
        obtain ⟨bd, hbd⟩ : ∃ x, w4.heap.size = x := ⟨_, rfl⟩
        rw [hbd] at HC ⊢
        clear hbd hz4
        go_loopw [8] (fun v wr => CmRel w hs D bh bd v wr) (fun v _ => 32 - (intOf v).toNat)
        case atStart => exact HC.out
        case round =>
          clear HC
          obtain ⟨j, hj, rfl, hd, hh, hbe, hkey⟩ := hrel
          by_cases hlt : j < 32
          · have c1 := cell_of_row wr _ j _ _ _ hd
            rw [bytes_get _ _ (by rw [Hl32.out]; exact hlt), Hout.out j hlt] at c1
            have c2 := cell_of_row wr _ (j / 4) _ _ _ hh
            rw [row_get _ _ (by rw [Hl8.out]; omega)] at c2
            unfold outF at c1
            obtain ⟨y, hy⟩ : ∃ y, hs.getD (j / 4) 0 = y := ⟨_, rfl⟩
            rw [hy] at c1 c2
            have HD := Lib.hid hd; have HH := Lib.hid hh; have Hbe := Lib.hid hbe; have Hkey := Lib.hid hkey
            clear hd hh hbe hkey hy
            have g1 : (0 : Int) ≤ ↑j / 4 := by omega
            have g2 : (↑j : Int) / 4 < 8 := by omega
            have g3 : (0 : Int) ≤ ↑j % 4 := by omega
            have g4 : (0 : Int) ≤ 24 - 8 * (↑j % 4) := by omega
            have g5 : (8 : Int) * (↑j % 4) ≤ 24 := by omega
            have g6 : (↑j : Int) < 32 := by omega
            have n1 : ((↑j : Int) / 4).toNat = j / 4 := by omega
            have m1 : (↑j : Int).tdiv 4 = ↑j / 4 := Int.tdiv_eq_ediv_of_nonneg (by omega)
            have m2 : (↑j : Int).tmod 4 = ↑j % 4 := Int.tmod_eq_emod_of_nonneg (by omega)
            have x1 : IntKind.i64.wrap (↑j / 4) = ↑j / 4 := IntWalk.i64_in _ (by omega)
            have x2 : IntKind.i64.wrap (8 * (↑j % 4)) = 8 * (↑j % 4) := IntWalk.i64_in _ (by omega)
            have x3 : IntKind.i64.wrap (24 - 8 * (↑j % 4)) = 24 - 8 * (↑j % 4) := IntWalk.i64_in _ (by omega)
            have x4 : IntKind.u64.wrap (24 - 8 * (↑j % 4)) = 24 - 8 * (↑j % 4) := wrap64in _ (by omega) (by omega)
            have x5 : min (24 - 8 * ((j : Int) % 4)).toNat 32 = 24 - 8 * (j % 4) := by omega
            have x6 := wrap8 (y / 2 ^ (24 - 8 * (j % 4)))
            go_wp2_with fail
            go_quiet (fail)
            clear x1 x2 x3 x4 x5 x6 m1 m2
            go_wp2_with fail
            go_roundw
            case rel => exact ⟨j + 1, by omega, by go_num, HD.out, HH.out, below_drewN Hbe.out _, Hkey.out⟩
            case measure => simp [intOf]; omega
          · have hj32 : j = 32 := by omega
            subst hj32
            have Hbe := Lib.hid hbe; have Hkey := Lib.hid hkey
            clear hd hh hbe hkey hlt hj
            go_wp2_with fail
            refine (runs_any _ Hkey.out).mono ?_
            rintro e w5 ⟨rfl, hb5⟩
            have Hb5 := Lib.hid hb5; clear hb5
            go_wp2_with fail
            go_ret
            exact ⟨rfl, Hbe.out.trans (Hb5.out.mono Hbe.out.size)⟩
end Sha
end Go.Proofs.YteldcnllpokfdaaDoor
