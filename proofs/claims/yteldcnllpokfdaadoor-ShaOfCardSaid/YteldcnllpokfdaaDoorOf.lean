/- The contract of sha.Of: called with a slice of bytes, nil or not, where the table of keys holds what its initialiser lays, it returns the digest that the plain functions tell; what was there before the call is as it was. Condition: fewer than 2^40 bytes. -/
import Derived.Test.YteldcnllpokfdaaDoorRnd
import Derived.Test.YteldcnllpokfdaaDoorPad
namespace Go.Proofs.YteldcnllpokfdaaDoor
namespace Sha
open Go.RowKit
set_option maxHeartbeats 2000000
set_option maxRecDepth 100000

def IV : List Int := [1779033703, 3144134277, 1013904242, 2773480762, 1359893119, 2600822924, 528734635, 1541459225]
/-- n blocks of p into the state h. -/
def hashN : Nat → List Int → List Int → List Int
  | 0, h, _ => h
  | n + 1, h, p => hashN n (roundF KK h (p.take 64)) (p.drop 64)
/-- The state behind the first k blocks of p. -/
def hashK (p : List Int) : Nat → List Int
  | 0 => IV
  | k + 1 => roundF KK (hashK p k) ((p.drop (64 * k)).take 64)
theorem hashK_length (p : List Int) (k : Nat) : (hashK p k).length = 8 := by
  cases k with
  | zero => rfl
  | succ k => exact roundF_length _ _ _
def outF (h : List Int) (i : Nat) : Int := h.getD (i / 4) 0 / 2 ^ (24 - 8 * (i % 4)) % 256
def outK (h : List Int) (k : Nat) : List Int := (List.range k).map (outF h) ++ List.replicate (32 - k) 0
def OfF (bs : List Int) : List Int := (List.range 32).map (outF (hashK (padF bs) ((padF bs).length / 64)))
theorem outK_length (h : List Int) (k : Nat) (hk : k ≤ 32) : (outK h k).length = 32 := by simp [outK]; omega
theorem outK_step (h : List Int) (k : Nat) (hk : k < 32) : (outK h k).set k (outF h k) = outK h (k + 1) := by
  unfold outK
  rw [List.set_append_right _ _ (by simp), List.range_succ, List.map_append, List.append_assoc]
  congr 1
  rw [show 32 - k = (32 - (k + 1)) + 1 by omega, List.replicate_succ]
  simp

theorem run_loadVar_at {P : Program} (w : World) (p : Addr) (ty : TypeId) (cs : List Value) (d : TypeDesc) (hc : ∀ j v, cs[j]? = some v → w.cell? (p.add j) = some v)
    (hu : P.underlying ty = some d) (hd : (match d with | .struct _ | .array _ _ => true | _ => false) = true) (hi : (P.info? ty).map (·.size) = some cs.length) : (loadVar ty p).run P w = .ok (.agg cs.toArray) w := by
  have hl : (loadCells p cs.length).run P w = .ok cs.toArray w := run_loadCells_list (P := P) w p cs hc
  cases hq : P.info? ty with
  | none => simp [hq] at hi
  | some i =>
    have hs : i.size = cs.length := by simpa [hq] using hi
    have hagg : (isAgg ty).run P w = .ok true w := by
      unfold isAgg
      rw [Sem.run_bind, run_underlying hu w]
      cases d <;> simp_all
    simp [loadVar, Sem.run_bind, hagg, sizeOf, typeInfo, hq, hs, hl]
theorem still_load {P : Program} {ops : Array Oper} {w : World} {Q : Act → Prop} {a : Act} {o : Oper} {rest : List Oper} (hgd : o.guard = none) (ty : TypeId) (x : Operand) (ho : o.op = .load ty x) (p : Addr) (hx : a.eval x = .pointer (some p)) (v : Value)
    (hrun : (loadVar ty p).run P w = .ok v w) (h : wpStill P ops w Q rest (a.put o.dst v)) : wpStill P ops w Q (o :: rest) a := by
  unfold wpStill
  rw [if_pos (by simp [Region.wanted, hgd])]
  unfold Oper.still execOp
  simp only [ho, hx, Instr.loadAt, Instr.sureAddr, Sem.run_bind, Sem.run_pure, Result.andThen_ok, hrun]
  exact ⟨rfl, h⟩

def OfRel (w : World) (bs : List Int) (n : Nat) (bp : Nat) (v : Value) (wr : World) : Prop :=
  ∃ k off : Nat, k ≤ n ∧ (k < n → off = 64 * k) ∧ v = .slice (some ⟨bp, off, none⟩) (64 * (n - k)) (64 * (n - k)) ∧ wr.heap[bp]? = some (.cells (bytes (padF bs)) 5 (0, 0)) ∧
    wr.heap[w.heap.size + 1]? = some (.cells (row (hashK (padF bs) k)) 29 (0, 0)) ∧ (∃ r, r.size = 32 ∧ wr.heap[w.heap.size]? = some (.cells r 22 (0, 0))) ∧ Below w.heap.size w wr ∧ Keys 0 wr

theorem cell_part (w : World) (g : Nat) (t : TypeId) (fr : Nat × Nat) (p : List Int) (o m : Nat) (hg : w.heap[g]? = some (.cells (bytes p) t fr)) (j : Nat) (v : Value)
    (hv : (((p.drop o).take m).map (Value.int .u8))[j]? = some v) : w.cell? ((⟨g, o, none⟩ : Addr).add j) = some v := by
  have hadd : (⟨g, o, none⟩ : Addr).add j = ⟨g, o + j, none⟩ := by unfold Addr.add; split <;> simp_all
  rw [hadd, cell_of_row w g (o + j) _ t fr hg]
  rw [List.getElem?_map, List.getElem?_take] at hv
  split at hv
  · rw [List.getElem?_drop] at hv
    simpa [bytes] using hv
  · simp at hv
theorem I30 : (Tryd.prog.info? 30).map (·.size) = some 64 := by kernel_rfl
theorem arr64 (w : World) (a : Option Addr) (c : Nat) : (Instr.arrayAt 30 (.slice a 64 c)).run Tryd.prog w = .ok (.pointer a) w := by
  simp [Instr.arrayAt, run_underlying Tryd.underlying30]
def slen : Value → Nat
  | .slice _ l _ => l
  | _ => 0
theorem padF_blocks (bs : List Int) : ∃ n, (padF bs).length = 64 * n ∧ 0 < n ∧ 64 * n ≤ bs.length + 73 := by
  have h1 := padF_length bs
  have h2 : pt (bs.length + 1) % 64 = 56 := by unfold pt; omega
  have h3 : pt (bs.length + 1) ≤ bs.length + 1 + 63 := by unfold pt; omega
  exact ⟨(padF bs).length / 64, by omega, by omega, by omega⟩

theorem of_step {w w2 : World} {bs : List Int} {n bp k : Nat} {v : Value} {off : Nat} (hk : k < n) (ho : k + 1 < n → off = 64 * (k + 1)) (hv : v = .slice (some ⟨bp, off, none⟩) (64 * (n - (k + 1))) (64 * (n - (k + 1))))
    (hb : bp ≠ w.heap.size + 1) (hp : w2.heap[bp]? = some (.cells (bytes (padF bs)) 5 (0, 0))) (hh : w2.heap[w.heap.size + 1]? = some (.cells (row (hashK (padF bs) k)) 29 (0, 0)))
    {r : Array Value} (hr : r.size = 32) (h0 : w2.heap[w.heap.size]? = some (.cells r 22 (0, 0))) (hbe : Below w.heap.size w w2) (hkey : Keys 0 w2) (hg : 0 < w.heap.size) :
    OfRel w bs n bp v (w2.setRow (w.heap.size + 1) (row (roundF KK (hashK (padF bs) k) (((padF bs).drop (64 * k)).take 64)))) := by
  refine ⟨k + 1, off, hk, ho, hv, ?_, ?_, ⟨r, hr, ?_⟩, below_setRow hbe (by omega) _, ?_⟩
  · rw [setRow_other _ _ _ _ hb]; exact hp
  · exact setRow_heap _ _ _ _ _ _ hh
  · rw [setRow_other _ _ _ _ (by omega)]; exact h0
  · exact hkey.below (B := w.heap.size) (below_setRow (Below.refl _ _) (by omega) _) hg
def OutRel (w : World) (hs : List Int) (bo : Nat) (i : Value) (wr : World) : Prop :=
  ∃ k : Nat, k ≤ 32 ∧ i = .int .i64 k ∧ wr.heap[w.heap.size + 1]? = some (.cells (row hs) 29 (0, 0)) ∧ wr.heap[bo]? = some (.cells (bytes (outK hs k)) 22 (0, 0)) ∧
    (∃ r, r.size = 32 ∧ wr.heap[w.heap.size]? = some (.cells r 22 (0, 0))) ∧ Below w.heap.size w wr

theorem of_any (bs : List Int) (A : Option Addr) (c : Nat) (w : World) (hlen : bs.length ≤ 1099511627776) (hs : Src w A bs) (hk : Keys 0 w) :
    Calls Tryd.prog 9 #[.slice A bs.length c] w fun e w' => e = .returned (.agg (bytes (OfF bs))) ∧ Below w.heap.size w w' := by
  have Hs := Lib.hid hs; have Hk := Lib.hid hk; clear hs hk
  have hg0 := Hk.out.1
  go_enter Tryd.func9, Tryd.ntmps9
  go_wp2_with fail
  refine (pad_any bs A c _ hlen ?src).mono ?_
  case src => exact (Hs.out.below ((Below.refl _ _).alloc (Nat.le_refl _) _)).below ((Below.refl _ _).alloc (Nat.le_refl _) _)
  rintro e w1 ⟨rfl, hp, hb⟩
  obtain ⟨n, hn, hn0, hn1⟩ := padF_blocks bs
  rw [size_al, size_al] at hp ⊢
  have h0 := hb.block w.heap.size (by rw [size_al, size_al]; omega)
  rw [Below.heap_alloc _ _ _ (by rw [size_al]; omega), heap_alloc_new] at h0
  have h1 := hb.block (w.heap.size + 1) (by rw [size_al, size_al]; omega)
  rw [new2] at h1
  have hB := (((Below.refl w.heap.size w).alloc (Nat.le_refl _) _).alloc (by rw [size_al]; omega) _).trans (hb.mono (by rw [size_al, size_al]; omega))
  have HS : OfRel w bs n (w.heap.size + 1 + 1) (.slice (some ⟨w.heap.size + 1 + 1, 0, none⟩) (64 * n) (64 * n)) w1 := ⟨0, 0, by omega, by omega, rfl, hp, h1, ⟨_, rfl, h0⟩, hB, Hk.out.below hB hg0⟩
  have HS' := Lib.hid HS
  clear hp hb h0 h1 hB HS
  rw [hn]
  have Hn := Lib.hid hn; clear hn
  have hbp : w.heap.size + 1 + 1 ≠ w.heap.size + 1 := by omega
  generalize w.heap.size + 1 + 1 = bp at HS' hbp ⊢
  go_wp2_with fail
  go_loopw [4] (fun v wr => OfRel w bs n bp v wr) (fun v _ => slen v)
  case atStart => exact HS'.out
  case round =>
    clear HS'
    obtain ⟨k, off, hk, ho, rfl, hp, hh, ⟨r, hr, h0⟩, hbe, hkey⟩ := hrel
    by_cases hlt : k < n
    · obtain rfl := ho hlt
      have hrun30 : (loadVar 30 ⟨bp, 64 * k, none⟩).run Tryd.prog wr.drew = .ok (.agg (bytes (((padF bs).drop (64 * k)).take 64))) wr.drew := by
        refine run_loadVar_at wr.drew _ 30 _ _ (fun j v hv => cell_part wr.drew _ _ _ _ _ _ hp j v hv) Tryd.underlying30 rfl ?_
        have e : ((((padF bs).drop (64 * k)).take 64).map (Value.int .u8)).length = 64 := by simp [Hn.out]; omega
        rw [e]; exact I30
      have hrun29 : (loadVar 29 ⟨w.heap.size + 1, 0, none⟩).run Tryd.prog wr.drew = .ok (.agg (row (hashK (padF bs) k))) wr.drew :=
        run_loadVar_row wr.drew _ 29 29 _ _ _ hh Tryd.underlying29 rfl (by rw [row_size, hashK_length]; kernel_rfl)
      have g1 : (64 : Int) ≤ 64 * ↑(n - k) := by omega
      have g2 : 64 ≤ 64 * (n - k) := by omega
      have harr := arr64 wr.drew (some ⟨bp, 64 * k, none⟩) (64 * (n - k))
      have g3 : 0 < 64 * (n - k) := by omega
      have HP := Lib.hid hp; have HH := Lib.hid hh; have Hr := Lib.hid hr; have H0 := Lib.hid h0; have Hbe := Lib.hid hbe; have Hkey := Lib.hid hkey
      have R29 := Lib.hid hrun29; have R30 := Lib.hid hrun30
      clear hp hh hr h0 hbe hkey ho hrun29 hrun30
      go_wp2_with fail
      refine wp_region_still_tail 5 (by kernel_rfl) (by kernel_rfl) ?_
      simp only [List.take_succ_cons, List.take_zero, List.drop_succ_cons, List.drop_zero]
      refine still_load rfl 29 _ rfl _ rfl _ R29.out ?_
      still_step
      still_step
      still_step
      refine still_load rfl 30 _ rfl _ rfl _ R30.out ?_
      refine wpStill_nil ?_
      change wpList _ _ _ _ _ wr.drew
      have hl8 := hashK_length (padF bs) k
      have hl64 : (((padF bs).drop (64 * k)).take 64).length = 64 := by simp [Hn.out]; omega
      have Hl := Lib.hid (And.intro hl8 hl64); clear hl8 hl64
      obtain ⟨blk, hblk⟩ : ∃ x, ((padF bs).drop (64 * k)).take 64 = x := ⟨_, rfl⟩
      obtain ⟨hs, hhs⟩ : ∃ x, hashK (padF bs) k = x := ⟨_, rfl⟩
      rw [hblk, hhs] at Hl ⊢
      have Hx := Lib.hid (And.intro hblk hhs); clear hblk hhs
      go_wp2_with fail
      refine (rnd_any hs blk wr.drew Hl.out.1 Hl.out.2 Hkey.out).mono ?_
      rintro e w2 ⟨rfl, hb2⟩
      have hz0 : w.heap.size + 1 < wr.heap.size := (Array.getElem?_eq_some_iff.1 HH.out).1
      have hz1 : bp < wr.heap.size := (Array.getElem?_eq_some_iff.1 HP.out).1
      have hz2 : w.heap.size < wr.heap.size := (Array.getElem?_eq_some_iff.1 H0.out).1
      have E1 := Lib.hid ((hb2.block _ hz0).trans HH.out)
      have E2 := Lib.hid ((hb2.block _ hz1).trans HP.out)
      have E3 := Lib.hid ((hb2.block _ hz2).trans H0.out)
      have Eb := Lib.hid (Hbe.out.trans ((below_drewN (Below.refl wr.heap.size wr) 1).trans hb2 |>.mono Hbe.out.size))
      have Ek := Lib.hid (Hkey.out.below (B := wr.heap.size) ((below_drewN (Below.refl wr.heap.size wr) 1).trans hb2) Hkey.out.1)
      have I29 := Lib.hid (show (Tryd.prog.info? 29).map (·.size) = some (row (roundF KK hs blk)).size by rw [row_size, roundF_length]; kernel_rfl)
      clear hb2 HP HH H0 Hbe Hkey R29 R30 harr
      by_cases hlast : k + 1 = n
      · have d1 : 64 * (n - k) = 64 := by omega
        rw [d1]
        clear g1 g2 g3 d1
        go_wp2_with (refine wpList_store_row rfl 29 _ _ rfl _ _ rfl rfl 29 (row (hashK (padF bs) k)) E1.out I29.out (by rw [row_size, row_size, roundF_length, hashK_length]) (row_one _) ?_)
        go_roundw
        case rel =>
          obtain ⟨rfl, rfl⟩ := Hx.out
          exact of_step hlt (by omega) (by rw [show n - (k + 1) = 0 by omega]) hbp E2.out E1.out Hr.out E3.out Eb.out Ek.out hg0
        case measure => simp [slen]; omega
      · have g4 : ¬ (64 * (n - k) = 64) := by omega
        have g5 : (64 * (n - k) == 64) = false := by rw [beq_eq_false_iff_ne]; omega
        have g6 : ¬ (64 = 64 * (n - k)) := by omega
        have g7 : ¬ ((64 : Int) = 64 * ↑(n - k)) := by omega
        go_wp2_with (refine wpList_store_row rfl 29 _ _ rfl _ _ rfl rfl 29 (row (hashK (padF bs) k)) E1.out I29.out (by rw [row_size, row_size, roundF_length, hashK_length]) (row_one _) ?_)
        go_roundw
        case rel =>
          obtain ⟨rfl, rfl⟩ := Hx.out
          exact of_step (off := 64 * k + 64) hlt (fun _ => by omega) (by rw [show 64 * (n - (k + 1)) = 64 * (n - k) - 64 by omega]) hbp E2.out E1.out Hr.out E3.out Eb.out Ek.out hg0
        case measure => simp [slen]; omega
    · have hkn : k = n := by omega
      subst hkn
      have hz : k - k = 0 := by omega
      have hsz := hbe.size
      have hz0 : w.heap.size + 1 < wr.heap.size := (Array.getElem?_eq_some_iff.1 hh).1
      rw [Nat.sub_self]
      obtain ⟨hs, hhs⟩ : ∃ x, hashK (padF bs) k = x := ⟨_, rfl⟩
      have hl8 := hashK_length (padF bs) k
      rw [hhs] at hh hl8
      have Hhs := Lib.hid hhs; have Hl8 := Lib.hid hl8; have HH := Lib.hid hh; have Hr := Lib.hid hr; have H0 := Lib.hid h0; have Hbe := Lib.hid hbe
      clear hhs hl8 hp hh hr h0 hbe hkey ho hlt hk hz
      go_wp2_with fail
      have E1 := Lib.hid ((Below.heap_alloc wr (.cells (bytes (List.replicate 32 0)) 22) _ hz0).trans HH.out)
      have E3 := Lib.hid ((Below.heap_alloc wr (.cells (bytes (List.replicate 32 0)) 22) _ (by omega : w.heap.size < wr.heap.size)).trans H0.out)
      have EN := Lib.hid (heap_alloc_new wr (.cells (bytes (List.replicate 32 0)) 22))
      have Eb := Lib.hid (Hbe.out.alloc hsz (.cells (bytes (List.replicate 32 0)) 22))
      clear HH H0 Hbe
      obtain ⟨bo, hbo⟩ : ∃ x, wr.heap.size = x := ⟨_, rfl⟩
      rw [hbo] at EN hz0 hsz ⊢
      clear hbo
      go_loopw [21] (fun i wr => OutRel w hs bo i wr) (fun i _ => 32 - (intOf i).toNat)
      case atStart => exact ⟨0, by omega, rfl, E1.out, EN.out, ⟨r, Hr.out, E3.out⟩, Eb.out⟩
      case round =>
        clear E1 E3 EN Eb
        obtain ⟨k, hk, rfl, hh, ho, ⟨r2, hr, h0⟩, hbe⟩ := hrel
        by_cases hlt : k < 32
        · have c1 := cell_of_row wr _ (k / 4) _ _ _ hh
          rw [row_get _ _ (by rw [Hl8.out]; omega)] at c1
          obtain ⟨x1, hx1⟩ : ∃ x, x = hs.getD (k / 4) 0 := ⟨_, rfl⟩
          rw [← hx1] at c1
          have c2 := cell_of_row wr _ k _ _ _ ho
          rw [bytes_get _ _ (by rw [outK_length _ _ hk]; exact hlt)] at c2
          obtain ⟨x2, hx2⟩ : ∃ x, x = (outK hs k).getD k 0 := ⟨_, rfl⟩
          rw [← hx2] at c2
          have f2 := frozen_of_row wr _ k _ _ ho
          have Hx := Lib.hid hx1; have HH := Lib.hid hh; have HO := Lib.hid ho; have Hr := Lib.hid hr; have H0 := Lib.hid h0; have Hbe := Lib.hid hbe
          clear hx1 hx2 hh ho hr h0 hbe
          have g1 : (0 : Int) ≤ ↑k / 4 := by omega
          have g2 : (↑k : Int) / 4 < 8 := by omega
          have g3 : (0 : Int) ≤ ↑k % 4 := by omega
          have g4 : (0 : Int) ≤ 24 - 8 * (↑k % 4) := by omega
          have g5 : (8 : Int) * (↑k % 4) ≤ 24 := by omega
          have g6 : (↑k : Int) < 32 := by omega
          have n1 : ((↑k : Int) / 4).toNat = k / 4 := by omega
          go_wp2_with fail
          go_roundw
          case rel =>
            refine ⟨k + 1, by omega, by go_num, ?_, ?_, ⟨r2, Hr.out, ?_⟩, Hbe.out.setCell (by simp; omega) _⟩
            · rw [heap_setCell_other _ _ _ _ (by simp; omega)]; exact HH.out
            · rw [heap_setCell_same _ _ _ _ _ _ HO.out, bytes_set, ← outK_step hs k hlt, outF, Hx.out]
            · rw [heap_setCell_other _ _ _ _ (by simp; omega)]; exact H0.out
          case measure => simp [intOf]; omega
        · have hk32 : k = 32 := by omega
          subst hk32
          have HH := Lib.hid hh; have HO := Lib.hid ho; have Hr := Lib.hid hr; have H0 := Lib.hid h0; have Hbe := Lib.hid hbe
          clear hh ho hr h0 hbe hlt hk
          have hout : outK hs 32 = OfF bs := by
            unfold outK OfF
            rw [Hn.out, Nat.mul_div_cancel_left _ (by omega), Hhs.out]
            simp
          rw [hout] at HO
          have hlo : (OfF bs).length = 32 := by rw [← hout]; exact outK_length _ _ (Nat.le_refl _)
          have I22 := Lib.hid (show (Tryd.prog.info? 22).map (·.size) = some (bytes (OfF bs)).size by rw [bytes_size, hlo]; kernel_rfl)
          have Hlo := Lib.hid hlo; clear hlo hout
          go_wp2_with (first | (refine wpList_load_row rfl 22 _ rfl _ rfl 22 _ _ _ HO.out Tryd.underlying22 rfl I22.out ?_) | (refine wpList_store_row rfl 22 _ _ rfl _ _ rfl rfl 22 _ H0.out I22.out (by rw [bytes_size, Hlo.out]; exact Hr.out) (bytes_one _) ?_))
          have hs22 := setRow_heap _ _ _ (bytes (OfF bs)) _ _ H0.out
          refine bodyPost_ret (results_cell_row rfl _ _ w.heap.size 22 _ _ _ rfl hs22 Tryd.underlying22 rfl I22.out) rfl ⟨rfl, below_setRow Hbe.out (Nat.le_refl _) _⟩
end Sha
end Go.Proofs.YteldcnllpokfdaaDoor
