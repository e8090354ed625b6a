/-
  Walks: gains and fades.
-/
import Derived.Test.YtnnhffehboknnaaDoorNear
namespace Go.Proofs.YtnnhffehboknnaaDoor
open Go.RowKit

def fadeG (a b el len : Int) : Int × Int :=
  if inB a (-6000) 600 && inB b (-6000) 600 && inB len 1 7200000 && inB el 0 len then (a + near ((b - a) * el) len, 0) else (0, 2)

set_option maxHeartbeats 400000 in
theorem isGain_any (n : Int) (w : World) :
    Calls Tryd.prog 27 #[.int .i64 n] w fun e w' => e = .returned (.bool (inB n (-6000) 600)) ∧ w = w' := by
  go_enter Tryd.func27, Tryd.ntmps27
  go_wp2_with (go_at_call 29; refine (within_any _ _ _ _).mono ?_; rintro e w' ⟨rfl, rfl⟩)
  go_ret
  exact ⟨rfl, rfl⟩
set_option maxHeartbeats 400000 in
theorem l19Gain_any (n : Int) (w : World) :
    Calls Tryd.prog 61 #[.int .i64 n] w fun e w' => e = .returned (.bool (inB n (-6000) 600)) ∧ w = w' := by
  go_enter Tryd.func61, Tryd.ntmps61
  go_wp2_with (go_at_call 33; refine (l00In_any _ _ _ _).mono ?_; rintro e w' ⟨rfl, rfl⟩)
  go_ret
  exact ⟨rfl, rfl⟩

theorem mul_bd {x y X Y : Int} (hx : -X ≤ x ∧ x ≤ X) (hy : 0 ≤ y ∧ y ≤ Y) : -(X * Y) ≤ x * y ∧ x * y ≤ X * Y := by
  have h1 : x * y ≤ X * y := Int.mul_le_mul_of_nonneg_right hx.2 hy.1
  have h2 : (-X) * y ≤ x * y := Int.mul_le_mul_of_nonneg_right hx.1 hy.1
  have h3 : X * y ≤ X * Y := Int.mul_le_mul_of_nonneg_left hy.2 (by omega)
  rw [Int.neg_mul] at h2
  omega

/-- The cases of a fade: why it is refused, or what the arithmetic needs. -/
theorem fadeG_cases (a b el len : Int) (P : Prop) (k1 : inB a (-6000) 600 = false → fadeG a b el len = (0, 2) → P) (k2 : inB a (-6000) 600 = true → inB b (-6000) 600 = false → fadeG a b el len = (0, 2) → P)
    (k3 : inB a (-6000) 600 = true → inB b (-6000) 600 = true → inB len 1 7200000 = false → fadeG a b el len = (0, 2) → P) (k4 : inB a (-6000) 600 = true → inB b (-6000) 600 = true → inB len 1 7200000 = true → inB el 0 len = false → fadeG a b el len = (0, 2) → P)
    (k5 : inB a (-6000) 600 = true → inB b (-6000) 600 = true → inB len 1 7200000 = true → inB el 0 len = true → fadeG a b el len = (a + near ((b - a) * el) len, 0) → P) : P := by
  cases h1 : inB a (-6000) 600
  · exact k1 h1 (by simp [fadeG, h1])
  cases h2 : inB b (-6000) 600
  · exact k2 h1 h2 (by simp [fadeG, h2])
  cases h3 : inB len 1 7200000
  · exact k3 h1 h2 h3 (by simp [fadeG, h3])
  cases h4 : inB el 0 len
  · exact k4 h1 h2 h3 h4 (by simp [fadeG, h4])
  · exact k5 h1 h2 h3 h4 (by simp [fadeG, h1, h2, h3, h4])

set_option maxHeartbeats 1000000 in
theorem iFadeGain_any (a b el len : Int) (w : World) :
    Calls Tryd.prog 10 #[.int .i64 a, .int .i64 b, .int .i64 el, .int .i64 len] w fun e w' => e = .returned (.tuple #[.int .i64 (fadeG a b el len).1, .int .i64 (fadeG a b el len).2]) ∧ ∃ n, w' = w.drewN n := by
  refine fadeG_cases a b el len _ (fun h1 h => ?_) (fun h1 h2 h => ?_) (fun h1 h2 h3 h => ?_) (fun h1 h2 h3 h4 h => ?_) (fun h1 h2 h3 h4 h => ?_)
  case' refine_5 =>
    have g1 := inB_iff.1 h1
    have g2 := inB_iff.1 h2
    have g3 := inB_iff.1 h3
    have g4 := inB_iff.1 h4
    have gp := mul_bd (x := b - a) (X := 6600) (y := el) (Y := 7200000) (by omega) (by omega)
    have gn := near_bd (a := (b - a) * el) (b := len) (A := 6600 * 7200000) (by omega) gp
  all_goals
    have HD := Lib.hid h
    clear h
    go_enter Tryd.func10, Tryd.ntmps10
    go_wp2_with (first | (go_at_call 27; refine (isGain_any _ _).mono ?_; rintro e w' ⟨rfl, rfl⟩) | (go_at_call 29; refine (within_any _ _ _ _).mono ?_; rintro e w' ⟨rfl, rfl⟩) | (go_at_call 32; refine (nearest_any _ _ (by omega) (by omega) (by omega) (by omega) _).mono ?_; rintro e w' ⟨rfl, n1, rfl⟩))
    go_ret2
    exact ⟨ret_ii HD.out, by first | exact ⟨0, rfl⟩ | exact ⟨_, rfl⟩⟩

end Go.Proofs.YtnnhffehboknnaaDoor
