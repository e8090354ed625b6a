/-
  The law FnGains, walked (door seat S1D).
-/
import Derived.Test.YtnnhffehboknnaaDoorR8
namespace Go.Proofs.YtnnhffehboknnaaDoor
open Go.RowKit

set_option maxRecDepth 20000 in
set_option maxHeartbeats 8000000 in
theorem lawFnGains (A0 : Option Addr) (n0 c0 : Nat) (z0 : List Int) (w : World) (h0 : IsRow .u8 w A0 n0 c0 z0) (ht : Tab w) :
    Calls Tryd.prog 3 #[.slice A0 n0 c0] w fun e w' => e = .returned (.bool true) ∧ Below w.heap.size w w' := by
  by_cases hb0 : n0 ≤ 1048576
  case neg =>
    clear h0 ht
    go_enter Tryd.func3, Tryd.ntmps3
    go_wp2
    go_ret
    exact ⟨rfl, G.refl _⟩
  obtain ⟨hc0, _⟩ := code_of_isRow h0 hb0
  have HC := Lib.hid hc0
  have HT := Lib.hid ht
  clear h0 hc0 ht
  go_enter Tryd.func3, Tryd.ntmps3
  go_wp2_with fail
  refine (r8Wide_any A0 n0 c0 _ 0 6600 _ HC.out (by omega) (by omega) (by omega) (by omega)).mono ?_
  rintro e w' ⟨g0, hg0, hg1, rfl, rfl⟩
  obtain ⟨g, hg⟩ : ∃ g, g0 - 6000 = g := ⟨_, rfl⟩
  have hga : -6000 ≤ g := by omega
  have hgb : g < 600 := by omega
  obtain ⟨b, e1, hb1, hb2, hb3⟩ := gain_back hga hgb
  have hk := gfOk_at hga hgb
  have E1 := Lib.hid (show gfR g = (gf g, 0) by unfold gfR; rw [inB_mk (by omega)]; rfl)
  have E2 := Lib.hid (show gfR (g + 1) = (gf (g + 1), 0) by unfold gfR; rw [inB_mk (by omega)]; rfl)
  have E3 := Lib.hid e1
  have E4 := Lib.hid (show gfR 0 = (1000000, 0) by decide +kernel)
  have E5 := Lib.hid (show gfR b = (gf g, 0) by unfold gfR; rw [inB_mk (by omega), hb3]; rfl)
  obtain ⟨f, HF⟩ : ∃ f, Hid (gf g = f) := ⟨_, rfl⟩
  obtain ⟨h, HH⟩ : ∃ h, Hid (gf (g + 1) = h) := ⟨_, rfl⟩
  rw [HF.out] at E1 E3 E5 hk
  rw [HH.out] at E2 hk
  have hd1 : decide (h < f) = false := by simp; omega
  have hd2 : decide (f < 1) = false := by simp; omega
  have hd3 : decide (b > g) = false := by simp; omega
  clear e1 hb3
  dsimp only
  go_wp2_with fail
  refine (iGainFactor_any _ _).mono ?_
  rw [E1.out]
  rintro e w1 ⟨rfl, g1⟩
  have G1 := Lib.hid g1
  clear g1
  dsimp only
  go_wp2_with fail
  refine (iGainFactor_any _ _).mono ?_
  rw [E2.out]
  rintro e w2 ⟨rfl, g2⟩
  have G2 := Lib.hid (G1.out.trans g2)
  clear g2
  dsimp only
  go_wp2_with fail
  refine (iGainFor_any _ _).mono ?_
  rw [E3.out]
  rintro e w3 ⟨rfl, g3⟩
  have G3 := Lib.hid (G2.out.trans g3)
  clear g3
  dsimp only
  go_wp2_with fail
  refine (iGainFactor_any _ _).mono ?_
  rw [E4.out]
  rintro e w4 ⟨rfl, g4⟩
  have G4 := Lib.hid (G3.out.trans g4)
  clear g4
  dsimp only
  go_wp2_with fail
  refine (iGainFactor_any _ _).mono ?_
  rw [E5.out]
  rintro e w5 ⟨rfl, g5⟩
  have G5 := Lib.hid (G4.out.trans g5)
  clear g5 hd1 hd2 hd3
  dsimp only
  go_wp2_with fail
  refine (r8Wide_any A0 n0 c0 _ 2 2001 _ (HC.out.g G5.out) (by omega) (by omega) (by omega) (by omega)).mono ?_
  rintro e w' ⟨x0, hx0, hx1, rfl, rfl⟩
  obtain ⟨p, hp⟩ : ∃ p, x0 - 1000 = p := ⟨_, rfl⟩
  obtain ⟨q1, q2, q3, q4, q5, q6, q7, q8, q9, q10⟩ := pan_facts (p := p) (by omega) (by omega)
  have KP := Lib.hid (fun W (g : G w W) => iPan_any p W (HT.out.G g))
  have KQ := Lib.hid (fun W (g : G w W) => iPan_any (-p) W (HT.out.G g))
  simp only [q9] at KP
  simp only [q1, q2, q10] at KQ
  obtain ⟨X, HX⟩ : ∃ x, Hid (panC p = x) := ⟨_, rfl⟩
  obtain ⟨Y, HY⟩ : ∃ y, Hid (panS p = y) := ⟨_, rfl⟩
  simp only [HX.out, HY.out] at KP KQ
  rw [HX.out] at q3 q4 q7 q8
  rw [HY.out] at q5 q6 q7 q8
  have hm1 : 0 ≤ X * X ∧ X * X ≤ 1000000000000 := by
    have a1 := Int.mul_nonneg q3 q3
    have a2 := Int.mul_le_mul_of_nonneg_right q4 q3
    omega
  have hm2 : 0 ≤ Y * Y ∧ Y * Y ≤ 1000000000000 := by
    have a1 := Int.mul_nonneg q5 q5
    have a2 := Int.mul_le_mul_of_nonneg_right q6 q5
    omega
  have hd1 : decide (X < 0) = false := by simp; omega
  have hd2 : decide (Y < 0) = false := by simp; omega
  have hd3 : decide (X > 1000000) = false := by simp; omega
  have hd4 : decide (Y > 1000000) = false := by simp; omega
  clear q1 q2 q9 q10
  dsimp only
  go_wp2_with fail
  refine (KP.out _ G5.out).mono ?_
  rintro e w6 ⟨rfl, g6⟩
  have G6 := Lib.hid (G5.out.trans g6)
  clear g6
  dsimp only
  go_wp2_with fail
  refine (KQ.out _ G6.out).mono ?_
  rintro e w7 ⟨rfl, g7⟩
  have G7 := Lib.hid (G6.out.trans g7)
  clear g7
  dsimp only
  go_wp2_with fail
  refine (r8Wide_any A0 n0 c0 _ 4 6600 _ (HC.out.g G7.out) (by omega) (by omega) (by omega) (by omega)).mono ?_
  rintro e w' ⟨o0, ho0, ho1, rfl, rfl⟩
  obtain ⟨o, ho⟩ : ∃ o, o0 - 6000 = o := ⟨_, rfl⟩
  have hoa : -6000 ≤ o := by omega
  have hob : o < 600 := by omega
  clear hd1 hd2 hd3 hd4
  dsimp only
  go_wp2_with fail
  refine (r8At_any A0 n0 c0 _ 6 101 _ (HC.out.g G7.out) (by omega) (by omega) (by omega) (by omega)).mono ?_
  rintro e w' ⟨t, ht0, ht1, rfl, rfl⟩
  have E6 := Lib.hid (show fadeG g o t 100 = (g + near ((o - g) * t) 100, 0) by unfold fadeG; rw [inB_mk (by omega), inB_mk (by omega), inB_mk (by omega), inB_mk (by omega)]; rfl)
  have hz := fade_between (a := g) (b := o) (t := t) ht0 (by omega)
  obtain ⟨z, HZ⟩ : ∃ z, Hid (g + near ((o - g) * t) 100 = z) := ⟨_, rfl⟩
  rw [HZ.out] at hz E6
  dsimp only
  go_wp2_with fail
  refine (iFadeGain_any _ _ _ _ _).mono ?_
  rw [E6.out]
  rintro e w8 ⟨rfl, k8, rfl⟩
  obtain ⟨m, hm⟩ : ∃ m, X * X + Y * Y - 1000000000000 = m := ⟨_, rfl⟩
  rw [hm] at q7 q8
  have hd1 : decide (max m (-m) < 1000000000) = true := by simp; omega
  have hd2 : decide (z ≥ min g o) = true := by simp; omega
  have hd3 : decide (z ≤ max g o) = true := by simp; omega
  dsimp only
  go_wp2_with fail
  refine (r8Abs_any m (by omega) (by omega) _).mono ?_
  rintro e w' ⟨rfl, rfl⟩
  dsimp only
  go_wp2
  go_ret
  exact ⟨rfl, G7.out.drewN _⟩
end Go.Proofs.YtnnhffehboknnaaDoor
