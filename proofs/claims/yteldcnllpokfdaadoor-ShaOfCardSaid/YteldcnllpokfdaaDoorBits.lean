/- Contracts of the two rotations of words (math/bits.RotateLeft32 at the counts of SHA-256, the reference's 'turned'): each returns the plain function, and the world is as it was. No conditions. -/
import Derived.Test.YteldcnllpokfdaaDoorProg
import Derived.Test.YteldcnllpokfdaaDoorSha0
import Derived.WalkKit
import Derived.WalkSpells
import Derived.WalkLawsBesides
import Derived.KernelRfl
namespace Go.Proofs.YteldcnllpokfdaaDoor
namespace Sha
open Go.RowKit
theorem bits_or_comm (a b : Int) : bits .or .u32 a b = bits .or .u32 b a := by
  simp only [bits, BitVec.or_comm]
set_option maxHeartbeats 1000000
theorem rot2_at (x k u : Int) (w : World) (hu : IntKind.u64.wrap k = u) (hs : bits .and .u64 u 31 = 30) :
    Calls Tryd.prog 16 #[.int .u32 x, .int .i64 k] w fun e w' => e = .returned (.int .u32 (r2 x)) ∧ w = w' := by
  go_enter Tryd.func16, Tryd.ntmps16
  go_wp2
  go_ret
  exact ⟨by rw [r2, rr, bits_or_comm]; rfl, rfl⟩
theorem rot2 (x : Int) (w : World) : Calls Tryd.prog 16 #[.int .u32 x, .int .i64 (-2)] w fun e w' => e = .returned (.int .u32 (r2 x)) ∧ w = w' :=
  rot2_at x (-2) _ w rfl (by decide +kernel)
theorem trn2 (x : Int) (w : World) : Calls Tryd.prog 17 #[.int .u32 x, .int .u64 2] w fun e w' => e = .returned (.int .u32 (r2 x)) ∧ w = w' := by
  go_enter Tryd.func17, Tryd.ntmps17
  go_wp2
  go_ret
  exact ⟨by rw [r2, rr]; rfl, rfl⟩
theorem rot6_at (x k u : Int) (w : World) (hu : IntKind.u64.wrap k = u) (hs : bits .and .u64 u 31 = 26) :
    Calls Tryd.prog 16 #[.int .u32 x, .int .i64 k] w fun e w' => e = .returned (.int .u32 (r6 x)) ∧ w = w' := by
  go_enter Tryd.func16, Tryd.ntmps16
  go_wp2
  go_ret
  exact ⟨by rw [r6, rr, bits_or_comm]; rfl, rfl⟩
theorem rot6 (x : Int) (w : World) : Calls Tryd.prog 16 #[.int .u32 x, .int .i64 (-6)] w fun e w' => e = .returned (.int .u32 (r6 x)) ∧ w = w' :=
  rot6_at x (-6) _ w rfl (by decide +kernel)
theorem trn6 (x : Int) (w : World) : Calls Tryd.prog 17 #[.int .u32 x, .int .u64 6] w fun e w' => e = .returned (.int .u32 (r6 x)) ∧ w = w' := by
  go_enter Tryd.func17, Tryd.ntmps17
  go_wp2
  go_ret
  exact ⟨by rw [r6, rr]; rfl, rfl⟩
theorem rot7_at (x k u : Int) (w : World) (hu : IntKind.u64.wrap k = u) (hs : bits .and .u64 u 31 = 25) :
    Calls Tryd.prog 16 #[.int .u32 x, .int .i64 k] w fun e w' => e = .returned (.int .u32 (r7 x)) ∧ w = w' := by
  go_enter Tryd.func16, Tryd.ntmps16
  go_wp2
  go_ret
  exact ⟨by rw [r7, rr, bits_or_comm]; rfl, rfl⟩
theorem rot7 (x : Int) (w : World) : Calls Tryd.prog 16 #[.int .u32 x, .int .i64 (-7)] w fun e w' => e = .returned (.int .u32 (r7 x)) ∧ w = w' :=
  rot7_at x (-7) _ w rfl (by decide +kernel)
theorem trn7 (x : Int) (w : World) : Calls Tryd.prog 17 #[.int .u32 x, .int .u64 7] w fun e w' => e = .returned (.int .u32 (r7 x)) ∧ w = w' := by
  go_enter Tryd.func17, Tryd.ntmps17
  go_wp2
  go_ret
  exact ⟨by rw [r7, rr]; rfl, rfl⟩
theorem rot11_at (x k u : Int) (w : World) (hu : IntKind.u64.wrap k = u) (hs : bits .and .u64 u 31 = 21) :
    Calls Tryd.prog 16 #[.int .u32 x, .int .i64 k] w fun e w' => e = .returned (.int .u32 (r11 x)) ∧ w = w' := by
  go_enter Tryd.func16, Tryd.ntmps16
  go_wp2
  go_ret
  exact ⟨by rw [r11, rr, bits_or_comm]; rfl, rfl⟩
theorem rot11 (x : Int) (w : World) : Calls Tryd.prog 16 #[.int .u32 x, .int .i64 (-11)] w fun e w' => e = .returned (.int .u32 (r11 x)) ∧ w = w' :=
  rot11_at x (-11) _ w rfl (by decide +kernel)
theorem trn11 (x : Int) (w : World) : Calls Tryd.prog 17 #[.int .u32 x, .int .u64 11] w fun e w' => e = .returned (.int .u32 (r11 x)) ∧ w = w' := by
  go_enter Tryd.func17, Tryd.ntmps17
  go_wp2
  go_ret
  exact ⟨by rw [r11, rr]; rfl, rfl⟩
theorem rot13_at (x k u : Int) (w : World) (hu : IntKind.u64.wrap k = u) (hs : bits .and .u64 u 31 = 19) :
    Calls Tryd.prog 16 #[.int .u32 x, .int .i64 k] w fun e w' => e = .returned (.int .u32 (r13 x)) ∧ w = w' := by
  go_enter Tryd.func16, Tryd.ntmps16
  go_wp2
  go_ret
  exact ⟨by rw [r13, rr, bits_or_comm]; rfl, rfl⟩
theorem rot13 (x : Int) (w : World) : Calls Tryd.prog 16 #[.int .u32 x, .int .i64 (-13)] w fun e w' => e = .returned (.int .u32 (r13 x)) ∧ w = w' :=
  rot13_at x (-13) _ w rfl (by decide +kernel)
theorem trn13 (x : Int) (w : World) : Calls Tryd.prog 17 #[.int .u32 x, .int .u64 13] w fun e w' => e = .returned (.int .u32 (r13 x)) ∧ w = w' := by
  go_enter Tryd.func17, Tryd.ntmps17
  go_wp2
  go_ret
  exact ⟨by rw [r13, rr]; rfl, rfl⟩
theorem rot17_at (x k u : Int) (w : World) (hu : IntKind.u64.wrap k = u) (hs : bits .and .u64 u 31 = 15) :
    Calls Tryd.prog 16 #[.int .u32 x, .int .i64 k] w fun e w' => e = .returned (.int .u32 (r17 x)) ∧ w = w' := by
  go_enter Tryd.func16, Tryd.ntmps16
  go_wp2
  go_ret
  exact ⟨by rw [r17, rr, bits_or_comm]; rfl, rfl⟩
theorem rot17 (x : Int) (w : World) : Calls Tryd.prog 16 #[.int .u32 x, .int .i64 (-17)] w fun e w' => e = .returned (.int .u32 (r17 x)) ∧ w = w' :=
  rot17_at x (-17) _ w rfl (by decide +kernel)
theorem trn17 (x : Int) (w : World) : Calls Tryd.prog 17 #[.int .u32 x, .int .u64 17] w fun e w' => e = .returned (.int .u32 (r17 x)) ∧ w = w' := by
  go_enter Tryd.func17, Tryd.ntmps17
  go_wp2
  go_ret
  exact ⟨by rw [r17, rr]; rfl, rfl⟩
theorem rot18_at (x k u : Int) (w : World) (hu : IntKind.u64.wrap k = u) (hs : bits .and .u64 u 31 = 14) :
    Calls Tryd.prog 16 #[.int .u32 x, .int .i64 k] w fun e w' => e = .returned (.int .u32 (r18 x)) ∧ w = w' := by
  go_enter Tryd.func16, Tryd.ntmps16
  go_wp2
  go_ret
  exact ⟨by rw [r18, rr, bits_or_comm]; rfl, rfl⟩
theorem rot18 (x : Int) (w : World) : Calls Tryd.prog 16 #[.int .u32 x, .int .i64 (-18)] w fun e w' => e = .returned (.int .u32 (r18 x)) ∧ w = w' :=
  rot18_at x (-18) _ w rfl (by decide +kernel)
theorem trn18 (x : Int) (w : World) : Calls Tryd.prog 17 #[.int .u32 x, .int .u64 18] w fun e w' => e = .returned (.int .u32 (r18 x)) ∧ w = w' := by
  go_enter Tryd.func17, Tryd.ntmps17
  go_wp2
  go_ret
  exact ⟨by rw [r18, rr]; rfl, rfl⟩
theorem rot19_at (x k u : Int) (w : World) (hu : IntKind.u64.wrap k = u) (hs : bits .and .u64 u 31 = 13) :
    Calls Tryd.prog 16 #[.int .u32 x, .int .i64 k] w fun e w' => e = .returned (.int .u32 (r19 x)) ∧ w = w' := by
  go_enter Tryd.func16, Tryd.ntmps16
  go_wp2
  go_ret
  exact ⟨by rw [r19, rr, bits_or_comm]; rfl, rfl⟩
theorem rot19 (x : Int) (w : World) : Calls Tryd.prog 16 #[.int .u32 x, .int .i64 (-19)] w fun e w' => e = .returned (.int .u32 (r19 x)) ∧ w = w' :=
  rot19_at x (-19) _ w rfl (by decide +kernel)
theorem trn19 (x : Int) (w : World) : Calls Tryd.prog 17 #[.int .u32 x, .int .u64 19] w fun e w' => e = .returned (.int .u32 (r19 x)) ∧ w = w' := by
  go_enter Tryd.func17, Tryd.ntmps17
  go_wp2
  go_ret
  exact ⟨by rw [r19, rr]; rfl, rfl⟩
theorem rot22_at (x k u : Int) (w : World) (hu : IntKind.u64.wrap k = u) (hs : bits .and .u64 u 31 = 10) :
    Calls Tryd.prog 16 #[.int .u32 x, .int .i64 k] w fun e w' => e = .returned (.int .u32 (r22 x)) ∧ w = w' := by
  go_enter Tryd.func16, Tryd.ntmps16
  go_wp2
  go_ret
  exact ⟨by rw [r22, rr, bits_or_comm]; rfl, rfl⟩
theorem rot22 (x : Int) (w : World) : Calls Tryd.prog 16 #[.int .u32 x, .int .i64 (-22)] w fun e w' => e = .returned (.int .u32 (r22 x)) ∧ w = w' :=
  rot22_at x (-22) _ w rfl (by decide +kernel)
theorem trn22 (x : Int) (w : World) : Calls Tryd.prog 17 #[.int .u32 x, .int .u64 22] w fun e w' => e = .returned (.int .u32 (r22 x)) ∧ w = w' := by
  go_enter Tryd.func17, Tryd.ntmps17
  go_wp2
  go_ret
  exact ⟨by rw [r22, rr]; rfl, rfl⟩
theorem rot25_at (x k u : Int) (w : World) (hu : IntKind.u64.wrap k = u) (hs : bits .and .u64 u 31 = 7) :
    Calls Tryd.prog 16 #[.int .u32 x, .int .i64 k] w fun e w' => e = .returned (.int .u32 (r25 x)) ∧ w = w' := by
  go_enter Tryd.func16, Tryd.ntmps16
  go_wp2
  go_ret
  exact ⟨by rw [r25, rr, bits_or_comm]; rfl, rfl⟩
theorem rot25 (x : Int) (w : World) : Calls Tryd.prog 16 #[.int .u32 x, .int .i64 (-25)] w fun e w' => e = .returned (.int .u32 (r25 x)) ∧ w = w' :=
  rot25_at x (-25) _ w rfl (by decide +kernel)
theorem trn25 (x : Int) (w : World) : Calls Tryd.prog 17 #[.int .u32 x, .int .u64 25] w fun e w' => e = .returned (.int .u32 (r25 x)) ∧ w = w' := by
  go_enter Tryd.func17, Tryd.ntmps17
  go_wp2
  go_ret
  exact ⟨by rw [r25, rr]; rfl, rfl⟩
end Sha
end Go.Proofs.YteldcnllpokfdaaDoor
