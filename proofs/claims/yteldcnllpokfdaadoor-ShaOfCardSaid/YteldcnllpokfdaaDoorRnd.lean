/- The contract of sha.Round: called with a state of eight words and a block of 64 bytes, where the table of keys holds what its initialiser lays, it returns the plain round function's state, and what was there before the call is as it was. -/
import Derived.Test.YteldcnllpokfdaaDoorSpread
import Derived.Deep.WholeRow
namespace Go.Proofs.YteldcnllpokfdaaDoor
namespace Sha
open Go.RowKit
set_option maxHeartbeats 2000000
set_option maxRecDepth 100000

/-- The table of keys, variable number g. -/
def Keys (g : Nat) (w : World) : Prop := g < w.heap.size ∧ ∀ j, j < 64 → w.cell? ⟨g, j, none⟩ = some (.int .u32 (KK.getD j 0))
theorem Keys.below {g B : Nat} {w w' : World} (h : Keys g w) (hb : Below B w w') (hB : g < B) : Keys g w' :=
  ⟨Nat.lt_of_lt_of_le h.1 hb.size, fun j hj => (hb.cell (p := ⟨g, j, none⟩) hB).trans (h.2 j hj)⟩

/-- What the rounds' loop keeps: the blocks of the state that came in (bh), of the result (br), of the words (bw), of the running state (bs). -/
def RdRel (g B : Nat) (w : World) (h b : List Int) (m : Nat) (bh br bw bs : Nat) (f : Nat → List Int) (i : Value) (wr : World) : Prop :=
  ∃ k : Nat, k ≤ m ∧ i = .int .i64 k ∧ wr.heap[bh]? = some (.cells (row h) 29 (0, 0)) ∧ wr.heap[bw]? = some (.cells (row (Wl b 64)) 36 (0, 0)) ∧ wr.heap[bs]? = some (.cells (row (f k)) 29 (0, 0)) ∧
      (∃ r, r.size = 8 ∧ wr.heap[br]? = some (.cells r 29 (0, 0))) ∧ Below B w wr ∧ Keys g wr
theorem RdRel.drewN {g B : Nat} {w wr : World} {h b : List Int} {m bh br bw bs : Nat} {f : Nat → List Int} {i : Value} (H : RdRel g B w h b m bh br bw bs f i wr) (n : Nat) : RdRel g B w h b m bh br bw bs f i (wr.drewN n) :=
  H.imp fun _ ⟨a, b, c, d, e, f, g, h⟩ => ⟨a, b, c, d, e, f, below_drewN g n, h⟩
theorem RdRel.step {g B : Nat} {w wr : World} {h b : List Int} {m bh br bw bs k : Nat} {f : Nat → List Int} (hk : k < m) (hh : bh ≠ bs) (hw : bw ≠ bs) (hr : br ≠ bs) (hB : B ≤ bs) (hg : g < B)
    (H1 : wr.heap[bh]? = some (.cells (row h) 29 (0, 0))) (H2 : wr.heap[bw]? = some (.cells (row (Wl b 64)) 36 (0, 0))) (H3 : wr.heap[bs]? = some (.cells (row (f k)) 29 (0, 0)))
    {r : Array Value} (H4 : r.size = 8) (H5 : wr.heap[br]? = some (.cells r 29 (0, 0))) (H6 : Below B w wr) (H7 : Keys g wr) {c : Array Value} (hc : c = row (f (k + 1))) :
    RdRel g B w h b m bh br bw bs f (.int .i64 (↑k + 1)) (wr.setRow bs c) := by
  subst hc
  refine ⟨k + 1, by omega, by go_num, ?_, ?_, ?_, ⟨r, H4, ?_⟩, below_setRow H6 hB _, ?_⟩
  · rw [setRow_other _ _ _ _ hh]; exact H1
  · rw [setRow_other _ _ _ _ hw]; exact H2
  · exact setRow_heap _ _ _ _ _ _ H3
  · rw [setRow_other _ _ _ _ hr]; exact H5
  · exact H7.below (B := B) (below_setRow (Below.refl _ _) hB _) hg
theorem cells8 {w : World} {bs : Nat} {s : List Int} (hs : s.length = 8) (H : w.heap[bs]? = some (.cells (row s) 29 (0, 0))) :
    ∃ a b c d e f g h : Int, s = [a, b, c, d, e, f, g, h] ∧ w.cell? ⟨bs, 0, none⟩ = some (.int .u32 a) ∧ w.cell? ⟨bs, 1, none⟩ = some (.int .u32 b) ∧ w.cell? ⟨bs, 2, none⟩ = some (.int .u32 c) ∧ w.cell? ⟨bs, 3, none⟩ = some (.int .u32 d) ∧
      w.cell? ⟨bs, 4, none⟩ = some (.int .u32 e) ∧ w.cell? ⟨bs, 5, none⟩ = some (.int .u32 f) ∧ w.cell? ⟨bs, 6, none⟩ = some (.int .u32 g) ∧ w.cell? ⟨bs, 7, none⟩ = some (.int .u32 h) := by
  match s, hs with
  | [a, b, c, d, e, f, g, h], _ =>
    refine ⟨a, b, c, d, e, f, g, h, rfl, ?_, ?_, ?_, ?_, ?_, ?_, ?_, ?_⟩ <;> (rw [cell_of_row _ _ _ _ _ _ H]; rfl)

theorem new2 (w : World) (o p : Obj) : ((w.alloc o).alloc p).heap[w.heap.size + 1]? = some p := by rw [← size_al w o, heap_alloc_new]
theorem setRow_new2 (w : World) (o : Obj) (c c' : Array Value) (t : TypeId) : ((w.alloc o).alloc (.cells c t)).setRow (w.heap.size + 1) c' = (w.alloc o).alloc (.cells c' t) := by
  rw [← size_al w o, World.setRow_alloc_new]

theorem rnd_any (st b : List Int) (w : World) (hh : st.length = 8) (hb : b.length = 64) (hg : Keys 0 w) :
    Calls Tryd.prog 11 #[.agg (row st), .agg (bytes b)] w fun e w' => e = .returned (.agg (row (roundF KK st b))) ∧ Below w.heap.size w w' := by
  have Hb := Lib.hid hb; clear hb
  have Hh := Lib.hid hh; clear hh
  have Hg := Lib.hid hg; clear hg
  have I8 := Lib.hid (show (Tryd.prog.info? 29).map (·.size) = some 8 by kernel_rfl)
  go_enter Tryd.func11, Tryd.ntmps11
  go_wp2_with (first | (refine wpList_load_row rfl 30 _ rfl _ rfl 30 _ _ _ (heap3 _ _ _ _).2.1 Tryd.underlying30 rfl (by rw [bytes_size, Hb]; kernel_rfl) ?_) | (go_at_call 15; fail))
  refine (spread_any b _ Hb.out).mono ?_
  rintro e w1 ⟨rfl, hb1⟩
  have H0 := Lib.hid ((hb1.block w.heap.size (by rw [size_al, size_al, size_al]; omega)).trans (heap3 _ _ _ _).1)
  have H2 := Lib.hid ((hb1.block (w.heap.size + 1 + 1) (by rw [size_al, size_al, size_al]; omega)).trans (heap3 _ _ _ _).2.2)
  have hz := hb1.size
  rw [size_al, size_al, size_al] at hz
  have HB := Lib.hid ((((Below.refl w.heap.size w).alloc (Nat.le_refl _) _).alloc (by rw [size_al]; omega) _).alloc (by rw [size_al, size_al]; omega) _ |>.trans (hb1.mono (by rw [size_al, size_al, size_al]; omega)))
  clear hb1
  have i36 : (Tryd.prog.info? 36).map (·.size) = some (row (Wl b 64)).size := by rw [row_size, Wl_length]; kernel_rfl
  have i29 : (Tryd.prog.info? 29).map (·.size) = some (row st).size := by rw [row_size, Hh.out]; kernel_rfl
  have I36 := Lib.hid i36; have I29 := Lib.hid i29; clear i36 i29
  go_wp2_with (first | (refine wpList_store_row rfl 36 _ _ rfl _ _ rfl rfl 36 _ (heap_alloc_new w1 _) I36.out (by rw [row_size, Wl_length]; rfl) (row_one _) ?_; rw [World.setRow_alloc_new]) | (refine wpList_load_row rfl 29 _ rfl _ rfl 29 _ _ _ ((Below.heap_alloc w1 _ _ (by omega)).trans H0.out) Tryd.underlying29 rfl I29.out ?_) | (refine wpList_store_row rfl 29 _ _ rfl _ _ rfl rfl 29 _ (new2 w1 _ _) I29.out (by rw [row_size, Hh.out]; rfl) (row_one _) ?_; rw [setRow_new2]))
  have H0' := Lib.hid ((Below.heap_alloc (w1.alloc (.cells (row (Wl b 64)) 36)) (.cells (row st) 29) w.heap.size (by rw [size_al]; omega)).trans ((Below.heap_alloc w1 (.cells (row (Wl b 64)) 36) w.heap.size (by omega)).trans H0.out))
  have H2' := Lib.hid ((Below.heap_alloc (w1.alloc (.cells (row (Wl b 64)) 36)) (.cells (row st) 29) (w.heap.size + 1 + 1) (by rw [size_al]; omega)).trans ((Below.heap_alloc w1 (.cells (row (Wl b 64)) 36) (w.heap.size + 1 + 1) (by omega)).trans H2.out))
  have H3' := Lib.hid ((Below.heap_alloc (w1.alloc (.cells (row (Wl b 64)) 36)) (.cells (row st) 29) w1.heap.size (by rw [size_al]; omega)).trans (heap_alloc_new w1 _))
  have HB' := Lib.hid ((HB.out.alloc (by omega) (.cells (row (Wl b 64)) 36)).alloc (by rw [size_al]; omega) (.cells (row st) 29))
  have hg0 := Hg.out.1
  have HG' := Lib.hid (Hg.out.below HB'.out hg0)
  clear H0 H2 HB
  go_loopw [21] (fun i wr => RdRel 0 w.heap.size w st b 64 w.heap.size (w.heap.size + 1 + 1) w1.heap.size (w1.heap.size + 1) (rounds KK (Wl b 64) st) i wr) (fun i _ => 64 - (intOf i).toNat)
  case atStart => exact ⟨0, by omega, rfl, H0'.out, H3'.out, new2 w1 _ _, ⟨_, rfl, H2'.out⟩, HB'.out, HG'.out⟩
  case round =>
    clear H0' H2' H3' HB' HG'
    obtain ⟨k, hk, rfl, h1, h2, h3, ⟨r, hr, h4⟩, hbe, hkey⟩ := hrel
    by_cases hlt : k < 64
    · obtain ⟨sa, sb, sc, sd, se, sf, sg, sh, hs, c0, c1, c2, c3, c4, c5, c6, c7⟩ := cells8 (rounds_length _ _ _ Hh.out k) h3
      have kc := hkey.2 k hlt
      have wc := cell_of_row wr _ k _ _ _ h2
      rw [row_get _ _ (by rw [Wl_length]; exact hlt)] at wc
      obtain ⟨kv, hkv⟩ : ∃ x, x = KK.getD k 0 := ⟨_, rfl⟩
      obtain ⟨wv, hwv⟩ : ∃ x, x = (Wl b 64).getD k 0 := ⟨_, rfl⟩
      rw [← hkv] at kc; rw [← hwv] at wc
      have HX := Lib.hid (And.intro hkv (And.intro hwv hs)); clear hkv hwv hs
      have H1 := Lib.hid h1; have H2 := Lib.hid h2; have H3 := Lib.hid h3; have Hr := Lib.hid hr; have H4 := Lib.hid h4; have Hbe := Lib.hid hbe; have Hkey := Lib.hid hkey
      clear h1 h2 h3 hr h4 hbe hkey
      have gk : (↑k : Int) < 64 := by omega
      go_wp2_with fail
      go_quiet (fail)
      go_wp2_with (first | (go_at_call 16; (with_reducible refine (rot6 _ _).mono ?_); rintro e w' ⟨rfl, rfl⟩) | (go_at_call 16; (with_reducible refine (rot11 _ _).mono ?_); rintro e w' ⟨rfl, rfl⟩) | (go_at_call 16; (with_reducible refine (rot25 _ _).mono ?_); rintro e w' ⟨rfl, rfl⟩))
      generalize hwq : wr.drewN _ = wq
      have d3 : wq.cell? ⟨w1.heap.size + 1, 3, none⟩ = some (.int .u32 sd) := by rw [← hwq]; exact c3
      have d7 : wq.cell? ⟨w1.heap.size + 1, 7, none⟩ = some (.int .u32 sh) := by rw [← hwq]; exact c7
      have dk : wq.cell? ⟨0, k, none⟩ = some (.int .u32 kv) := by rw [← hwq]; exact kc
      have dw : wq.cell? ⟨w1.heap.size, k, none⟩ = some (.int .u32 wv) := by rw [← hwq]; exact wc
      have E1 := Lib.hid (show wq.heap[w.heap.size]? = some (.cells (row st) 29 (0, 0)) by rw [← hwq]; exact H1.out)
      have E2 := Lib.hid (show wq.heap[w1.heap.size]? = some (.cells (row (Wl b 64)) 36 (0, 0)) by rw [← hwq]; exact H2.out)
      have E3 := Lib.hid (show wq.heap[w1.heap.size + 1]? = some (.cells (row (rounds KK (Wl b 64) st k)) 29 (0, 0)) by rw [← hwq]; exact H3.out)
      have E4 := Lib.hid (show wq.heap[w.heap.size + 1 + 1]? = some (.cells r 29 (0, 0)) by rw [← hwq]; exact H4.out)
      have Eb := Lib.hid (show Below _ _ wq by rw [← hwq]; exact below_drewN Hbe.out _)
      have Ek := Lib.hid (show Keys _ wq by rw [← hwq]; exact Hkey.out)
      clear hwq c0 c1 c2 c3 c4 c5 c6 c7 kc wc H1 H2 H3 H4 Hbe Hkey
      go_quiet (fail)
      go_wp2_with (first | (go_at_call 16; (with_reducible refine (rot2 _ _).mono ?_); rintro e w' ⟨rfl, rfl⟩) | (go_at_call 16; (with_reducible refine (rot13 _ _).mono ?_); rintro e w' ⟨rfl, rfl⟩) | (go_at_call 16; (with_reducible refine (rot22 _ _).mono ?_); rintro e w' ⟨rfl, rfl⟩) | (refine wpList_store_row (o := ⟨none, .store 29 (.tmp 6) (.tmp 99), _, _, _, _⟩) rfl 29 _ _ rfl (w1.heap.size + 1) ?cells ?hx ?hy 29 (row (rounds KK (Wl b 64) st k)) ?hg ?hi ?ho ?h1 ?hk; (case hx => rfl); (case hy => exact rfl); (case hg => exact E3.out); (case hi => exact I8.out); (case ho => (rw [row_size, rounds_length _ _ _ Hh.out]; rfl)); (case h1 => simp [Value.oneCell'])))
      go_roundw
      case rel =>
        obtain ⟨hkv, hwv, hs⟩ := HX.out
        refine RdRel.step (wr := wq.drewN _) hlt (by omega) (by omega) (by omega) (by omega) hg0 E1.out E2.out E3.out Hr.out E4.out (below_drewN Eb.out _) Ek.out ?_
        have hmax : (if IntKind.u32.signed = true then (-1 : Int) else IntKind.u32.max) = 4294967295 := rfl
        rw [hmax]
        simp only [rounds, hs, ← hkv, ← hwv, rstep, row, t1f, t2f, up0, up1, add, xor, and, List.getD_cons_zero, List.getD_cons_succ, List.map_cons, List.map_nil, Int.emod_add_emod, Int.add_emod_emod]
      case measure => simp [intOf]; omega
    · have hk64 : k = 64 := by omega
      subst hk64
      have H1 := Lib.hid h1; have H2 := Lib.hid h2; have H3 := Lib.hid h3; have Hr := Lib.hid hr; have H4 := Lib.hid h4; have Hbe := Lib.hid hbe; have Hkey := Lib.hid hkey
      clear h1 h2 h3 hr h4 hbe hkey hlt hk
      rw [show ((64 : Nat) : Int) = 64 from rfl]
      go_wp2_with fail
      obtain ⟨rs, hrs⟩ : ∃ x, x = rounds KK (Wl b 64) st 64 := ⟨_, rfl⟩
      have hrl : rs.length = 8 := by rw [hrs]; exact rounds_length _ _ _ Hh.out _
      have Hrs := Lib.hid hrs; have Hrl := Lib.hid hrl; clear hrs hrl
      go_loopw [101] (fun i wr => RdRel 0 w.heap.size w st b 8 w.heap.size (w.heap.size + 1 + 1) w1.heap.size (w1.heap.size + 1) (plus rs st) i wr) (fun i _ => 8 - (intOf i).toNat)
      case atStart => exact ⟨0, by omega, rfl, H1.out, H2.out, by rw [plus_zero _ _ Hrl.out, Hrs.out]; exact H3.out, ⟨_, Hr.out, H4.out⟩, Hbe.out, Hkey.out⟩
      case round =>
        clear H1 H2 H3 H4 Hr Hbe Hkey
        obtain ⟨k, hk, rfl, h1, h2, h3, ⟨r2, hr, h4⟩, hbe, hkey⟩ := hrel
        by_cases hlt : k < 8
        · have c0 := cell_of_row wr _ k _ _ _ h3
          have f0 := frozen_of_row wr _ k _ _ h3
          have c1 := cell_of_row wr _ k _ _ _ h1
          rw [row_get _ _ (by rw [plus_length]; exact hlt)] at c0
          rw [row_get _ _ (by rw [Hh.out]; exact hlt)] at c1
          obtain ⟨sv, hsv⟩ : ∃ x, x = (plus rs st k).getD k 0 := ⟨_, rfl⟩
          obtain ⟨hv, hhv⟩ : ∃ x, x = st.getD k 0 := ⟨_, rfl⟩
          rw [← hsv] at c0; rw [← hhv] at c1
          have HX := Lib.hid (And.intro hsv hhv); clear hsv hhv
          have H1 := Lib.hid h1; have H2 := Lib.hid h2; have H3 := Lib.hid h3; have Hr := Lib.hid hr; have H4 := Lib.hid h4; have Hbe := Lib.hid hbe; have Hkey := Lib.hid hkey
          clear h1 h2 h3 hr h4 hbe hkey
          have gk : (↑k : Int) < 8 := by omega
          go_wp2_with fail
          go_still_tail 8, (by kernel_rfl)
          go_wp2
          go_roundw
          case rel =>
            obtain ⟨hsv, hhv⟩ := HX.out
            refine RdRel.drewN ?_ 1
            rw [setCell_eq_setRow wr _ _ _ _ _ _ H3.out]
            refine RdRel.step hlt (by omega) (by omega) (by omega) (by omega) hg0 H1.out H2.out H3.out Hr.out H4.out Hbe.out Hkey.out ?_
            rw [row_set, ← plus_set, hsv, hhv, plus_getD _ _ _ _ hlt, if_neg (by omega)]
            rfl
          case measure => simp [intOf]; omega
        · have hk8 : k = 8 := by omega
          subst hk8
          have H1 := Lib.hid h1; have H2 := Lib.hid h2; have H3 := Lib.hid h3; have Hr := Lib.hid hr; have H4 := Lib.hid h4; have Hbe := Lib.hid hbe; have Hkey := Lib.hid hkey
          clear h1 h2 h3 hr h4 hbe hkey hlt hk
          have I29 := Lib.hid (show (Tryd.prog.info? 29).map (·.size) = some (row (plus rs st 8)).size by rw [row_size, plus_length]; exact I8.out)
          go_wp2_with (first | (refine wpList_load_row rfl 29 _ rfl _ rfl 29 _ _ _ H3.out Tryd.underlying29 rfl I29.out ?_) | (refine wpList_store_row rfl 29 _ _ rfl _ _ rfl rfl 29 _ H4.out I29.out (by rw [row_size, plus_length]; exact Hr.out) (row_one _) ?_))
          have hs29 := setRow_heap _ _ _ (row (plus rs st 8)) _ _ H4.out
          refine bodyPost_ret (results_cell_row rfl _ _ (w.heap.size + 1 + 1) 29 _ _ _ rfl hs29 Tryd.underlying29 rfl I29.out) rfl ⟨?_, ?_⟩
          · rw [roundF, ← Hrs.out]
          · exact below_setRow Hbe.out (by omega) _
end Sha
end Go.Proofs.YteldcnllpokfdaaDoor
