/- The contract of the reference's Of: called with a slice of bytes, nil or not, where the reference's table of keys holds what its initialiser lays, it returns the digest that the plain functions tell; what was there before the call is as it was. Condition: fewer than 2^40 bytes. -/
import Derived.Test.YteldcnllpokfdaaDoorRpad
import Derived.Test.YteldcnllpokfdaaDoorRfr
namespace Go.Proofs.YteldcnllpokfdaaDoor
namespace Sha
open Go.RowKit
set_option maxHeartbeats 4000000
set_option maxRecDepth 1000000

theorem copy_at (W : World) (g : Nat) (t : TypeId) (L : List Int) (hg : W.heap[g]? = some (.cells (bytes L) t (0, 0))) (hL : L.length = 64) (A : Addr) (cap : Nat) (blk : List Int) (hl : blk.length = 64)
    (hc : ∀ (j : Nat) (v : Value), (blk.map (Value.int .u8))[j]? = some v → W.cell? (A.add j) = some v) :
    (Builtin.copy_ #[24, 24] 3 #[.slice (some ⟨g, 0, none⟩) 64 64, .slice (some A) 64 cap]).run Tryd.prog W = .ok (.int .i64 64) (W.setRow g (bytes blk)) := by
  have hz : (Tryd.prog.info? 5).map (·.size) = some 1 := by kernel_rfl
  have hrun := run_copy_row (P := Tryd.prog) W 24 24 3 5 g 0 64 64 A 64 cap (bytes L) t (blk.map (.int .u8)) Tryd.underlying24 hz hg (by rw [List.length_map, hl]; rfl)
    hc (by rw [List.length_map, hl, bytes_size, hL]; omega) (fun v hv => by
      obtain ⟨x, _, rfl⟩ := List.mem_map.1 hv
      rfl)
  rw [hrun, List.length_map, hl]
  congr 2
  have e : (bytes L).toList.drop (0 + 64) = [] := List.drop_of_length_le (by simp [bytes, hL])
  rw [e]
  simp [bytes]
theorem cell_cur (w : World) (g : Nat) (cur : Array Value) (t : TypeId) (fr : Nat × Nat) (p : List Int) (N : Nat) (ht : cur.toList.take N = mapB p) (o m : Nat) (hg : w.heap[g]? = some (.cells cur t fr)) (j : Nat) (v : Value)
    (hv : (((p.drop o).take m).map (Value.int .u8))[j]? = some v) : w.cell? ((⟨g, o, none⟩ : Addr).add j) = some v := by
  have hadd : (⟨g, o, none⟩ : Addr).add j = ⟨g, o + j, none⟩ := by unfold Addr.add; split <;> simp_all
  rw [hadd, cell_of_row w g (o + j) _ t fr hg]
  rw [List.getElem?_map, List.getElem?_take] at hv
  split at hv
  · rw [List.getElem?_drop] at hv
    have h1 : (mapB p)[o + j]? = some v := by rw [mapB, List.getElem?_map]; exact hv
    rw [← ht, List.getElem?_take] at h1
    split at h1
    · simpa using h1
    · cases h1
  · simp at hv
def RofRel (w : World) (bs : List Int) (m bp : Nat) (cur : Array Value) (bh : Nat) (v : Value) (wr : World) : Prop :=
  ∃ k : Nat, k ≤ m ∧ v = .int .i64 (64 * ↑k) ∧ wr.heap[bp]? = some (.cells cur 5 (0, 0)) ∧ wr.heap[bh]? = some (.cells (row (hashK (padF bs) k)) 29 (0, 0)) ∧
    (∃ r, r.size = 32 ∧ wr.heap[w.heap.size]? = some (.cells r 22 (0, 0))) ∧ Below w.heap.size w wr ∧ Keys 1 wr
def RoutRel (w : World) (hs : List Int) (bh bo : Nat) (i : Value) (wr : World) : Prop :=
  ∃ k : Nat, k ≤ 32 ∧ i = .int .i64 k ∧ wr.heap[bh]? = some (.cells (row hs) 29 (0, 0)) ∧ wr.heap[bo]? = some (.cells (bytes (outK hs k)) 22 (0, 0)) ∧
    (∃ r, r.size = 32 ∧ wr.heap[w.heap.size]? = some (.cells r 22 (0, 0))) ∧ Below w.heap.size w wr

theorem refof_any (bs : List Int) (A : Option Addr) (c : Nat) (w : World) (hlen : bs.length ≤ 1099511627776) (hs : Src w A bs) (hk : Keys 1 w) :
    Calls Tryd.prog 13 #[.slice A bs.length c] w fun e w' => e = .returned (.agg (bytes (OfF bs))) ∧ Below w.heap.size w w' := by
  have Hs := Lib.hid hs; have Hk := Lib.hid hk; clear hs hk
  have hg0 := Hk.out.1
  obtain ⟨m, hM, hm0, hm1⟩ := padF_blocks bs
  obtain ⟨n, hn⟩ : ∃ n, bs.length = n := ⟨_, rfl⟩
  have hpad := fun (W : World) (hS : Src W A bs) => refpad_any bs A c W hlen hS
  rw [hM] at hpad
  rw [hn] at hpad hm1 hlen ⊢
  have Hpad := Lib.hid hpad; have HM := Lib.hid hM; clear hpad hM hn
  go_enter Tryd.func13, Tryd.ntmps13
  go_wp2_with fail
  refine (Hpad.out _ (Hs.out.below ((Below.refl _ _).alloc (Nat.le_refl _) _))).mono ?_
  rintro e w1 ⟨v, rfl, ho, hb⟩
  obtain ⟨hlx, hsome⟩ := ho
  obtain ⟨bp, cap, cur, rfl, hbp, hcur, hcap, _, hcs, htake⟩ : ∃ g cap cur, v = .slice (some ⟨g, 0, none⟩) (64 * m) cap ∧ (w.alloc _).heap.size ≤ g ∧ w1.heap[g]? = some (.cells cur 5 (0, 0)) ∧ 64 * m ≤ cap ∧ cap ≤ maxLen ∧ cur.size = cap * 1 ∧ cur.toList.take (64 * m * 1) = mapB (padF bs) := by
    rcases hsome with ⟨_, h0⟩ | h
    · omega
    · exact h
  rw [size_al] at hbp
  have h0 := hb.block w.heap.size (by rw [size_al]; omega)
  rw [heap_alloc_new] at h0
  have hB : Below w.heap.size w w1 := ((Below.refl w.heap.size w).alloc (Nat.le_refl _) _).trans (hb.mono (by rw [size_al]; omega))
  have hz1 : bp < w1.heap.size := (Array.getElem?_eq_some_iff.1 hcur).1
  rw [Nat.mul_one] at htake
  have HT := Lib.hid htake; have HC := Lib.hid hcur; have H0 := Lib.hid h0; have HB := Lib.hid hB
  clear hlx hsome hcur htake hcs hb hB h0
  go_wp2_with fail
  refine (first_any w1).mono ?_
  rintro e w2 ⟨rfl, hb2⟩
  have Hb2 := Lib.hid hb2; have hz2 := hb2.size
  have HC2 := Lib.hid ((hb2.block _ hz1).trans HC.out)
  have H02 := Lib.hid ((hb2.block _ (by omega : w.heap.size < w1.heap.size)).trans H0.out)
  clear hb2
  go_wp2_with (refine wpList_store_row rfl 29 _ _ rfl _ _ rfl rfl 29 _ (heap_alloc_new w2 _) I29 (by rw [row_size]; rfl) (row_one IV) ?_; rw [World.setRow_alloc_new])
  have hS : RofRel w bs m bp cur w2.heap.size (.int .i64 0) (w2.alloc (.cells (row IV) 29)) := by
    have B2 : Below w.heap.size w w2 := HB.out.trans (Hb2.out.mono HB.out.size)
    exact ⟨0, by omega, by simp, (Below.heap_alloc w2 _ _ (by omega)).trans HC2.out, heap_alloc_new _ _, ⟨_, rfl, (Below.heap_alloc w2 _ _ (by omega)).trans H02.out⟩, B2.alloc (B2.size) _, (Hk.out.below B2 hg0).below ((Below.refl _ _).alloc (Nat.le_refl _) _) (by have := B2.size; omega)⟩
  have hbn : bp < w2.heap.size := by omega
  have HS := Lib.hid hS; clear hS
  clear HC HC2 H0 H02 HB Hb2 hz1 hz2
  obtain ⟨bh, hbh⟩ : ∃ x, w2.heap.size = x := ⟨_, rfl⟩
  rw [hbh] at HS hbn ⊢
  clear hbh
  have hcap2 : (64 : Int) * ↑m ≤ ↑cap := by omega
  have hmm : (64 : Int) * ↑m ≤ 1099511627776 + 73 := by omega
  go_loopw [5] (fun v wr => RofRel w bs m bp cur bh v wr) (fun v _ => 64 * m - (intOf v).toNat)
  case atStart => exact HS.out
  case round =>
    clear HS
    obtain ⟨k, hk, rfl, hp, hh, ⟨r, hr, h0⟩, hbe, hkey⟩ := hrel
    by_cases hlt : k < m
    · have t1 : (64 : Int) * ↑k + 64 ≤ 64 * ↑m := by omega
      have t2 : (64 : Int) * ↑k ≤ 64 * ↑k + 64 := by omega
      have t3 : (0 : Int) ≤ 64 * ↑k := by omega
      have t4 : (0 : Int) ≤ 64 * ↑k + 64 := by omega
      have t5 : (64 : Int) * ↑k + 64 ≤ ↑cap := by omega
      have n1 : ((64 : Int) * ↑k).toNat = 64 * k := by omega
      have n2 : ((64 : Int) * ↑k + 64).toNat = 64 * k + 64 := by omega
      have n3 : 64 * k + 64 ≤ 64 * m := by omega
      have n4 : 64 * k ≤ 64 * k + 64 := by omega
      have n5 : ¬ (cap = 64 * k) := by omega
      have n6 : 64 * k + 64 ≤ cap := by omega
      have x1 : IntKind.i64.wrap (64 * ↑k + 64) = 64 * ↑k + 64 := IntWalk.i64_in _ (by omega)
      have HP := Lib.hid hp; have HH := Lib.hid hh; have H0 := Lib.hid h0; have Hbe := Lib.hid hbe; have Hkey := Lib.hid hkey
      clear hp hh h0 hbe hkey
      go_wp2_with fail
      go_still_tail 6, (by kernel_rfl)
      have hl64 : (((padF bs).drop (64 * k)).take 64).length = 64 := by simp [HM.out]; omega
      have hl8 := hashK_length (padF bs) k
      have hz0 : bp < wr.heap.size := (Array.getElem?_eq_some_iff.1 HP.out).1
      have hz1 : bh < wr.heap.size := (Array.getElem?_eq_some_iff.1 HH.out).1
      have hcp0 := copy_at ((wr.alloc (.cells (bytes z64) 30)).drew) wr.heap.size 30 z64 (heap_alloc_new _ _) rfl ⟨bp, 64 * k, none⟩ (cap - 64 * k) (((padF bs).drop (64 * k)).take 64) hl64
        (fun j v hv => cell_cur ((wr.alloc (.cells (bytes z64) 30)).drew) bp cur 5 (0, 0) (padF bs) (64 * m) HT.out (64 * k) 64 ((Below.heap_alloc wr _ _ hz0).trans HP.out) j v hv)
      have hsr : ((wr.alloc (.cells (bytes z64) 30)).drew).setRow wr.heap.size (bytes (((padF bs).drop (64 * k)).take 64)) = (wr.alloc (.cells (bytes (((padF bs).drop (64 * k)).take 64)) 30)).drew :=
        congrArg World.drew (World.setRow_alloc_new wr (bytes z64) (bytes (((padF bs).drop (64 * k)).take 64)) 30)
      rw [hsr] at hcp0
      obtain ⟨blk, hblk⟩ : ∃ x, ((padF bs).drop (64 * k)).take 64 = x := ⟨_, rfl⟩
      obtain ⟨hs, hhs⟩ : ∃ x, hashK (padF bs) k = x := ⟨_, rfl⟩
      rw [hblk] at hcp0 hl64
      rw [hhs] at hl8
      have Hx := Lib.hid (And.intro hblk hhs); have Hl64 := Lib.hid hl64; have Hl8 := Lib.hid hl8
      clear hblk hhs hsr hl64 hl8 x1 n5
      change wpList _ _ _ _ _ ((wr.alloc (.cells #[.int .u8 0, .int .u8 0, .int .u8 0, .int .u8 0, .int .u8 0, .int .u8 0, .int .u8 0, .int .u8 0, .int .u8 0, .int .u8 0, .int .u8 0, .int .u8 0, .int .u8 0, .int .u8 0, .int .u8 0, .int .u8 0, .int .u8 0, .int .u8 0, .int .u8 0, .int .u8 0, .int .u8 0, .int .u8 0, .int .u8 0, .int .u8 0, .int .u8 0, .int .u8 0, .int .u8 0, .int .u8 0, .int .u8 0, .int .u8 0, .int .u8 0, .int .u8 0, .int .u8 0, .int .u8 0, .int .u8 0, .int .u8 0, .int .u8 0, .int .u8 0, .int .u8 0, .int .u8 0, .int .u8 0, .int .u8 0, .int .u8 0, .int .u8 0, .int .u8 0, .int .u8 0, .int .u8 0, .int .u8 0, .int .u8 0, .int .u8 0, .int .u8 0, .int .u8 0, .int .u8 0, .int .u8 0, .int .u8 0, .int .u8 0, .int .u8 0, .int .u8 0, .int .u8 0, .int .u8 0, .int .u8 0, .int .u8 0, .int .u8 0, .int .u8 0] 30)).drew)
      have hcp : (Builtin.copy_ #[24, 24] 3 #[.slice (some ⟨wr.heap.size, 0, none⟩) 64 64, .slice (some ⟨bp, 64 * k, none⟩) 64 (cap - 64 * k)]).run Tryd.prog ((wr.alloc (.cells #[.int .u8 0, .int .u8 0, .int .u8 0, .int .u8 0, .int .u8 0, .int .u8 0, .int .u8 0, .int .u8 0, .int .u8 0, .int .u8 0, .int .u8 0, .int .u8 0, .int .u8 0, .int .u8 0, .int .u8 0, .int .u8 0, .int .u8 0, .int .u8 0, .int .u8 0, .int .u8 0, .int .u8 0, .int .u8 0, .int .u8 0, .int .u8 0, .int .u8 0, .int .u8 0, .int .u8 0, .int .u8 0, .int .u8 0, .int .u8 0, .int .u8 0, .int .u8 0, .int .u8 0, .int .u8 0, .int .u8 0, .int .u8 0, .int .u8 0, .int .u8 0, .int .u8 0, .int .u8 0, .int .u8 0, .int .u8 0, .int .u8 0, .int .u8 0, .int .u8 0, .int .u8 0, .int .u8 0, .int .u8 0, .int .u8 0, .int .u8 0, .int .u8 0, .int .u8 0, .int .u8 0, .int .u8 0, .int .u8 0, .int .u8 0, .int .u8 0, .int .u8 0, .int .u8 0, .int .u8 0, .int .u8 0, .int .u8 0, .int .u8 0, .int .u8 0] 30)).drew) = .ok (.int .i64 64) ((wr.alloc (.cells (bytes blk) 30)).drew) := by
        rw [z64_lit] at hcp0; exact hcp0
      clear hcp0
      have E1 := Lib.hid ((Below.heap_alloc wr (.cells (bytes blk) 30) _ hz1).trans HH.out)
      have E2 := Lib.hid (heap_alloc_new wr (.cells (bytes blk) 30))
      have I29' := Lib.hid (show (Tryd.prog.info? 29).map (·.size) = some (row (hashK (padF bs) k)).size by rw [row_size, hashK_length]; exact I29)
      have I30' := Lib.hid (show (Tryd.prog.info? 30).map (·.size) = some (bytes blk).size by rw [bytes_size, Hl64.out]; exact I30)
      go_wp2_with (first | (refine wpList_load_row (o := ⟨some 26, .load 29 (.tmp 4), _, _, _, _⟩) rfl 29 _ rfl bh ?hx 29 (row (hashK (padF bs) k)) (0, 0) _ ?hg Tryd.underlying29 rfl I29'.out ?hk; (case hx => rfl); (case hg => exact E1.out)) | (refine wpList_load_row (o := ⟨some 27, .load 30 (.tmp 6), _, _, _, _⟩) rfl 30 _ rfl wr.heap.size ?hx3 30 (bytes blk) (0, 0) _ ?hg3 Tryd.underlying30 rfl I30'.out ?hk3; (case hx3 => rfl); (case hg3 => exact E2.out)))
      have hkk : hashK (padF bs) k = hs := Hx.out.2
      rw [hkk] at E1 I29' ⊢
      have kD : Keys 1 ((wr.alloc (.cells (bytes blk) 30)).drew) := Hkey.out.below (B := wr.heap.size) (below_drewN ((Below.refl _ _).alloc (Nat.le_refl _) _) 1) Hkey.out.1
      refine (ref_rnd hs blk _ Hl8.out Hl64.out kD).mono ?_
      rintro e w3 ⟨rfl, hb3⟩
      have hb3' : Below wr.heap.size wr w3 := (below_drewN ((Below.refl wr.heap.size wr).alloc (Nat.le_refl _) (.cells (bytes blk) 30)) 1).trans (hb3.mono (by show wr.heap.size ≤ (wr.alloc _).heap.size; rw [size_al]; omega))
      have hp3 := Lib.hid ((hb3'.block _ hz0).trans HP.out)
      have hh3 := Lib.hid ((hb3'.block _ hz1).trans HH.out)
      have h03 := Lib.hid ((hb3'.block _ (by omega : w.heap.size < wr.heap.size)).trans H0.out)
      have hB3 := Lib.hid (Hbe.out.trans (hb3'.mono Hbe.out.size))
      have hK3 := Lib.hid (Hkey.out.below hb3' Hkey.out.1)
      clear hb3 hb3' kD hcp E1 E2 HP HH H0 Hbe Hkey I29' I30' hkk
      have I29' := Lib.hid (show (Tryd.prog.info? 29).map (·.size) = some (row (roundF KK hs blk)).size by rw [row_size, roundF_length]; exact I29)
      go_wp2_with (refine wpList_store_row (o := ⟨none, .store 29 (.tmp 4) (.tmp 28), _, _, _, _⟩) rfl 29 _ _ rfl bh (row (roundF KK hs blk)) ?hx4 ?hy4 29 (row (hashK (padF bs) k)) ?hg4 I29'.out ?ho4 (row_one _) ?hk4; (case hx4 => rfl); (case hy4 => rfl); (case hg4 => exact hh3.out); (case ho4 => rw [row_size, row_size, roundF_length, hashK_length]))
      go_roundw
      case rel =>
        refine ⟨k + 1, by omega, by go_num, ?_, ?_, ⟨r, hr, ?_⟩, below_setRow hB3.out (by omega) _, hK3.out.below (B := w.heap.size) (below_setRow (Below.refl _ _) (by omega) _) hg0⟩
        · rw [setRow_other _ _ _ _ (by omega)]; exact hp3.out
        · rw [setRow_heap _ _ _ _ _ _ hh3.out, ← Hx.out.1, ← Hx.out.2]; rfl
        · rw [setRow_other _ _ _ _ (by omega)]; exact h03.out
      case measure => simp [intOf]; omega
    · have hkm : k = m := by omega
      subst hkm
      have t1 : ¬ ((64 : Int) * ↑k + 64 ≤ 64 * ↑k) := by omega
      have t2 : decide ((64 : Int) * ↑k + 64 ≤ 64 * ↑k) = false := by rw [decide_eq_false_iff_not]; omega
      have hsz := hbe.size
      have hz0 : bh < wr.heap.size := (Array.getElem?_eq_some_iff.1 hh).1
      obtain ⟨hs, hhs⟩ : ∃ x, hashK (padF bs) k = x := ⟨_, rfl⟩
      have hl8 := hashK_length (padF bs) k
      rw [hhs] at hh hl8
      have Hhs := Lib.hid hhs; have Hl8 := Lib.hid hl8; have HH := Lib.hid hh; have Hr := Lib.hid hr; have H0 := Lib.hid h0; have Hbe := Lib.hid hbe
      clear hhs hl8 hp hh hr h0 hbe hkey hlt hk
      go_wp2_with fail
      have E1 := Lib.hid ((Below.heap_alloc wr (.cells (bytes (List.replicate 32 0)) 22) _ hz0).trans HH.out)
      have E3 := Lib.hid ((Below.heap_alloc wr (.cells (bytes (List.replicate 32 0)) 22) _ (by omega : w.heap.size < wr.heap.size)).trans H0.out)
      have EN := Lib.hid (heap_alloc_new wr (.cells (bytes (List.replicate 32 0)) 22))
      have Eb := Lib.hid (Hbe.out.alloc hsz (.cells (bytes (List.replicate 32 0)) 22))
      clear HH H0 Hbe
      obtain ⟨bo, hbo⟩ : ∃ x, wr.heap.size = x := ⟨_, rfl⟩
      rw [hbo] at EN hz0 hsz ⊢
      clear hbo t1 t2
      go_loopw [8] (fun i wr => RoutRel w hs bh bo i wr) (fun i _ => 32 - (intOf i).toNat)
      case atStart => exact ⟨0, by omega, rfl, E1.out, EN.out, ⟨r, Hr.out, E3.out⟩, Eb.out⟩
      case round =>
        clear E1 E3 EN Eb
        have HM2 := HM; clear HM
        obtain ⟨j, hj, rfl, hh, ho, ⟨r2, hr, h0⟩, hbe⟩ := hrel
        by_cases hlt : j < 32
        · have c1 := cell_of_row wr _ (j / 4) _ _ _ hh
          rw [row_get _ _ (by rw [Hl8.out]; omega)] at c1
          obtain ⟨x1, hx1⟩ : ∃ x, x = hs.getD (j / 4) 0 := ⟨_, rfl⟩
          rw [← hx1] at c1
          have c2 := cell_of_row wr _ j _ _ _ ho
          rw [bytes_get _ _ (by rw [outK_length _ _ hj]; exact hlt)] at c2
          obtain ⟨x2, hx2⟩ : ∃ x, x = (outK hs j).getD j 0 := ⟨_, rfl⟩
          rw [← hx2] at c2
          have f2 := frozen_of_row wr _ j _ _ ho
          have Hx := Lib.hid hx1; have HH := Lib.hid hh; have HO := Lib.hid ho; have Hr := Lib.hid hr; have H0 := Lib.hid h0; have Hbe := Lib.hid hbe
          clear hx1 hx2 hh ho hr h0 hbe
          have g1 : (0 : Int) ≤ ↑j / 4 := by omega
          have g2 : (↑j : Int) / 4 < 8 := by omega
          have g3 : (0 : Int) ≤ ↑j % 4 := by omega
          have g4 : (0 : Int) ≤ 24 - 8 * (↑j % 4) := by omega
          have g5 : (8 : Int) * (↑j % 4) ≤ 24 := by omega
          have g6 : (↑j : Int) < 32 := by omega
          have n1 : ((↑j : Int) / 4).toNat = j / 4 := by omega
          go_wp2_with fail
          go_roundw
          case rel =>
            refine ⟨j + 1, by omega, by go_num, ?_, ?_, ⟨r2, Hr.out, ?_⟩, Hbe.out.setCell (by simp; omega) _⟩
            · rw [heap_setCell_other _ _ _ _ (by simp; omega)]; exact HH.out
            · rw [heap_setCell_same _ _ _ _ _ _ HO.out, bytes_set, ← outK_step hs j hlt, outF, Hx.out]
            · rw [heap_setCell_other _ _ _ _ (by simp; omega)]; exact H0.out
          case measure => simp [intOf]; omega
        · have hj32 : j = 32 := by omega
          subst hj32
          have HH := Lib.hid hh; have HO := Lib.hid ho; have Hr := Lib.hid hr; have H0 := Lib.hid h0; have Hbe := Lib.hid hbe
          clear hh ho hr h0 hbe hlt hj
          have hout : outK hs 32 = OfF bs := by
            unfold outK OfF
            rw [HM2.out, Nat.mul_div_cancel_left _ (by omega), Hhs.out]
            simp
          rw [hout] at HO
          have hlo : (OfF bs).length = 32 := by rw [← hout]; exact outK_length _ _ (Nat.le_refl _)
          have I22 := Lib.hid (show (Tryd.prog.info? 22).map (·.size) = some (bytes (OfF bs)).size by rw [bytes_size, hlo]; kernel_rfl)
          have Hlo := Lib.hid hlo; clear hlo hout
          go_wp2_with (first | (refine wpList_load_row rfl 22 _ rfl _ rfl 22 _ _ _ HO.out Tryd.underlying22 rfl I22.out ?_) | (refine wpList_store_row rfl 22 _ _ rfl _ _ rfl rfl 22 _ H0.out I22.out (by rw [bytes_size, Hlo.out]; exact Hr.out) (bytes_one _) ?_))
          have hs22 := setRow_heap _ _ _ (bytes (OfF bs)) _ _ H0.out
          refine bodyPost_ret (results_cell_row rfl _ _ w.heap.size 22 _ _ _ rfl hs22 Tryd.underlying22 rfl I22.out) rfl ⟨rfl, below_setRow Hbe.out (Nat.le_refl _) _⟩
end Sha
end Go.Proofs.YteldcnllpokfdaaDoor
