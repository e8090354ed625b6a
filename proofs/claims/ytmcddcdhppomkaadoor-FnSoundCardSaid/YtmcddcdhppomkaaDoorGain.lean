/-
  Walks: gains and fades.
-/
import Derived.Test.YtmcddcdhppomkaaDoorNear
namespace Go.Proofs.YtmcddcdhppomkaaDoor
open Go.RowKit

def fadeG (a b el len : Int) : Int × Int :=
  if inB a (-6000) 600 && inB b (-6000) 600 && inB len 1 7200000 && inB el 0 len then (a + near ((b - a) * el) len, 0) else (0, 2)

set_option maxHeartbeats 400000 in
theorem isGain_any (n : Int) (w : World) :
    Calls Tryd.prog 22 #[.int .i64 n] w fun e w' => e = .returned (.bool (inB n (-6000) 600)) ∧ w = w' := by
  go_enter Tryd.func22, Tryd.ntmps22
  go_wp2_with (go_at_call 40; refine (within_any _ _ _ _).mono ?_; rintro e w' ⟨rfl, rfl⟩)
  go_ret
  exact ⟨rfl, rfl⟩
set_option maxHeartbeats 400000 in
theorem l19Gain_any (n : Int) (w : World) :
    Calls Tryd.prog 28 #[.int .i64 n] w fun e w' => e = .returned (.bool (inB n (-6000) 600)) ∧ w = w' := by
  go_enter Tryd.func28, Tryd.ntmps28
  go_wp2_with (go_at_call 30; refine (l00In_any _ _ _ _).mono ?_; rintro e w' ⟨rfl, rfl⟩)
  go_ret
  exact ⟨rfl, rfl⟩

theorem mul_bd {x y X Y : Int} (hx : -X ≤ x ∧ x ≤ X) (hy : 0 ≤ y ∧ y ≤ Y) : -(X * Y) ≤ x * y ∧ x * y ≤ X * Y := by
  have h1 : x * y ≤ X * y := Int.mul_le_mul_of_nonneg_right hx.2 hy.1
  have h2 : (-X) * y ≤ x * y := Int.mul_le_mul_of_nonneg_right hx.1 hy.1
  have h3 : X * y ≤ X * Y := Int.mul_le_mul_of_nonneg_left hy.2 (by omega)
  rw [Int.neg_mul] at h2
  omega

/-- The cases of a fade: why it is refused, or what the arithmetic needs. -/
theorem fadeG_cases (a b el len : Int) (P : Prop) (k1 : inB a (-6000) 600 = false → fadeG a b el len = (0, 2) → P) (k2 : inB a (-6000) 600 = true → inB b (-6000) 600 = false → fadeG a b el len = (0, 2) → P)
    (k3 : inB a (-6000) 600 = true → inB b (-6000) 600 = true → inB len 1 7200000 = false → fadeG a b el len = (0, 2) → P) (k4 : inB a (-6000) 600 = true → inB b (-6000) 600 = true → inB len 1 7200000 = true → inB el 0 len = false → fadeG a b el len = (0, 2) → P)
    (k5 : inB a (-6000) 600 = true → inB b (-6000) 600 = true → inB len 1 7200000 = true → inB el 0 len = true → fadeG a b el len = (a + near ((b - a) * el) len, 0) → P) : P := by
  cases h1 : inB a (-6000) 600
  · exact k1 h1 (by simp [fadeG, h1])
  cases h2 : inB b (-6000) 600
  · exact k2 h1 h2 (by simp [fadeG, h2])
  cases h3 : inB len 1 7200000
  · exact k3 h1 h2 h3 (by simp [fadeG, h3])
  cases h4 : inB el 0 len
  · exact k4 h1 h2 h3 h4 (by simp [fadeG, h4])
  · exact k5 h1 h2 h3 h4 (by simp [fadeG, h1, h2, h3, h4])

end Go.Proofs.YtmcddcdhppomkaaDoor
