/- The walk of ShaOf: where both tables hold what their initialisers lay, the program's digest and the reference's are the same, and the law returns true; what was there before the call is as it was. Condition: the bytes are read at the slice that came in. -/
import Derived.Test.YteldcnllpokfdaaDoorRof
namespace Go.Proofs.YteldcnllpokfdaaDoor
namespace Sha
open Go.RowKit
set_option maxHeartbeats 4000000
set_option maxRecDepth 1000000

theorem OfF_length (bs : List Int) : (OfF bs).length = 32 := by simp [OfF]
theorem ofs_any (bs : List Int) (A : Option Addr) (c : Nat) (w : World) (hlen : bs.length ≤ 9223372036854775807) (hs : Src w A bs) (hk0 : Keys 0 w) (hk1 : Keys 1 w) :
    Calls Tryd.prog 7 #[.slice A bs.length c] w fun e w' => e = .returned (.bool true) ∧ Below w.heap.size w w' := by
  have Hs := Lib.hid hs; have Hk := Lib.hid hk0; have Hk1 := Lib.hid hk1; clear hs hk0 hk1
  have hg0 := Hk.out.1
  obtain ⟨n, hn⟩ : ∃ n, bs.length = n := ⟨_, rfl⟩
  rw [hn] at hlen ⊢
  by_cases h3 : 300 < n
  · clear hn
    go_enter Tryd.func7, Tryd.ntmps7
    go_wp2_with (go_at_call 3; (with_reducible refine (runs_any _ Hk.out).mono ?_); rintro e w1 ⟨rfl, hb⟩; have Hb := Lib.hid hb; clear hb)
    go_ret
    exact ⟨rfl, Hb.out⟩
  · have hof := fun (W : World) (hS : Src W A bs) (hK : Keys 0 W) => of_any bs A c W (by omega) hS hK
    have hrof := fun (W : World) (hS : Src W A bs) (hK : Keys 1 W) => refof_any bs A c W (by omega) hS hK
    rw [hn] at hof hrof
    have Hof := Lib.hid hof; have Hrof := Lib.hid hrof; have Hn := Lib.hid hn
    clear hof hrof hn
    have h3b : decide ((300 : Int) < ↑n) = false := by rw [decide_eq_false_iff_not]; omega
    go_enter Tryd.func7, Tryd.ntmps7
    go_wp2_with fail
    refine (Hof.out _ Hs.out Hk.out).mono ?_
    rintro e w1 ⟨rfl, hb⟩
    have Hb := Lib.hid hb; clear hb
    go_wp2_with fail
    refine (Hrof.out _ (Hs.out.below Hb.out) (Hk1.out.below Hb.out Hk1.out.1)).mono ?_
    rintro e w2 ⟨rfl, hb2⟩
    have Hb2 := Lib.hid (Hb.out.trans (hb2.mono Hb.out.size)); clear hb2
    have he := eq22 w2 (OfF bs) (OfF_length bs)
    go_wp2_with fail
    refine (runs_any _ (Hk.out.below Hb2.out hg0)).mono ?_
    rintro e w3 ⟨rfl, hb3⟩
    have Hb3 := Lib.hid (Hb2.out.trans (hb3.mono Hb2.out.size)); clear hb3
    go_wp2_with fail
    go_ret
    exact ⟨rfl, Hb3.out⟩
end Sha
end Go.Proofs.YteldcnllpokfdaaDoor
