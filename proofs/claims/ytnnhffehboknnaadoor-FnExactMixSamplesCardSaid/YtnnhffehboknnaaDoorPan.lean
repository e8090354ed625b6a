/-
  Walks (door seat S1D): PanFactors, by both texts; its law.
-/
import Derived.Test.YtnnhffehboknnaaDoorSine
namespace Go.Proofs.YtnnhffehboknnaaDoor
open Go.RowKit

def panC (p : Int) : Int := if inB p (-1000) 1000 = false then 0 else snA ((p + 1000) * 45 + 90000)
def panS (p : Int) : Int := if inB p (-1000) 1000 = false then 0 else snA ((p + 1000) * 45)
def panK (p : Int) : Int := if inB p (-1000) 1000 = false then 2 else 0
theorem ret_iii {a b c x y z : Int} (h1 : x = a) (h2 : y = b) (h3 : z = c) : Ending.returned (.tuple #[.int .i64 a, .int .i64 b, .int .i64 c]) = .returned (.tuple #[.int .i64 x, .int .i64 y, .int .i64 z]) := by rw [h1, h2, h3]

set_option maxRecDepth 20000 in
set_option maxHeartbeats 2000000 in
theorem l02Cosine_any (a : Int) (h0 : 0 ≤ a) (h1 : a ≤ 90000) (w : World) :
    Calls Tryd.prog 52 #[.int .i64 a] w fun e w' => e = .returned (.int .i64 (snA (a + 90000))) ∧ G w w' := by
  have K := Lib.hid (fun W => l02Sine_any (a + 90000) (by omega) (by omega) W)
  go_enter Tryd.func52, Tryd.ntmps52
  go_wp2_with (first | (go_at_call 58; refine (l02Normal_any _ (by omega) (by omega) _).mono ?_; rintro e w' ⟨rfl, rfl⟩) | (go_at_call 53; refine (K.out _).mono ?_; rintro e w' ⟨rfl, g1⟩))
  go_ret
  exact ⟨rfl, g1⟩

set_option maxRecDepth 20000 in
set_option maxHeartbeats 2000000 in
theorem iPan_any (p : Int) (w : World) (ht : Tab w) :
    Calls Tryd.prog 9 #[.int .i64 p] w fun e w' => e = .returned (.tuple #[.int .i64 (panC p), .int .i64 (panS p), .int .i64 (panK p)]) ∧ G w w' := by
  cases hp : inB p (-1000) 1000
  · have H1 := Lib.hid (show panC p = 0 by unfold panC; rw [if_pos hp])
    have H2 := Lib.hid (show panS p = 0 by unfold panS; rw [if_pos hp])
    have H3 := Lib.hid (show panK p = 2 by unfold panK; rw [if_pos hp])
    go_enter Tryd.func9, Tryd.ntmps9
    go_wp2_with (go_at_call 29; refine (within_any _ _ _ _).mono ?_; rintro e w' ⟨rfl, rfl⟩)
    go_ret3
    exact ⟨ret_iii H1.out H2.out H3.out, G.refl _⟩
  · have H1 := Lib.hid (show panC p = snA ((p + 1000) * 45 + 90000) by unfold panC; rw [if_neg (by rw [hp]; simp)])
    have H2 := Lib.hid (show panS p = snA ((p + 1000) * 45) by unfold panS; rw [if_neg (by rw [hp]; simp)])
    have H3 := Lib.hid (show panK p = 0 by unfold panK; rw [if_neg (by rw [hp]; simp)])
    have hb := inB_iff.1 hp
    have K1 := Lib.hid (fun W (g : G w W) => iCosine_any ((p + 1000) * 45) (by omega) (by omega) W (ht.G g))
    have K2 := Lib.hid (fun W (g : G w W) => iSine_any ((p + 1000) * 45) (by omega) (by omega) W (ht.G g))
    obtain ⟨x, HX⟩ : ∃ x, Hid (snA ((p + 1000) * 45 + 90000) = x) := ⟨_, rfl⟩
    obtain ⟨y, HY⟩ : ∃ y, Hid (snA ((p + 1000) * 45) = y) := ⟨_, rfl⟩
    rw [HX.out] at H1 K1
    rw [HY.out] at H2 K2
    go_enter Tryd.func9, Tryd.ntmps9
    go_wp2_with (first | (go_at_call 29; refine (within_any _ _ _ _).mono ?_; rintro e w' ⟨rfl, rfl⟩) | (go_at_call 30; refine (K1.out _ (G.refl _)).mono ?_; rintro e w1 ⟨rfl, g1⟩) | (go_at_call 31; refine (K2.out _ g1).mono ?_; rintro e w2 ⟨rfl, g2⟩))
    go_ret3
    exact ⟨ret_iii H1.out H2.out H3.out, g1.trans g2⟩

set_option maxRecDepth 20000 in
set_option maxHeartbeats 2000000 in
theorem l19Pan_any (p : Int) (h0 : -1000 ≤ p) (h1 : p ≤ 1000) (w : World) :
    Calls Tryd.prog 34 #[.int .i64 p] w fun e w' => e = .returned (.tuple #[.int .i64 (snA ((p + 1000) * 45 + 90000)), .int .i64 (snA ((p + 1000) * 45))]) ∧ G w w' := by
  have K1 := Lib.hid (fun W => l02Cosine_any ((p + 1000) * 45) (by omega) (by omega) W)
  have K2 := Lib.hid (fun W => l02Sine_any ((p + 1000) * 45) (by omega) (by omega) W)
  obtain ⟨x, HX⟩ : ∃ x, Hid (snA ((p + 1000) * 45 + 90000) = x) := ⟨_, rfl⟩
  obtain ⟨y, HY⟩ : ∃ y, Hid (snA ((p + 1000) * 45) = y) := ⟨_, rfl⟩
  rw [HX.out] at K1 ⊢
  rw [HY.out] at K2 ⊢
  go_enter Tryd.func34, Tryd.ntmps34
  go_wp2_with (first | (go_at_call 52; refine (K1.out _).mono ?_; rintro e w1 ⟨rfl, g1⟩) | (go_at_call 53; refine (K2.out _).mono ?_; rintro e w2 ⟨rfl, g2⟩))
  go_ret2
  exact ⟨rfl, g1.trans g2⟩

set_option maxRecDepth 20000 in
set_option maxHeartbeats 2000000 in
theorem sPan_any (p : Int) (w : World) :
    Calls Tryd.prog 13 #[.int .i64 p] w fun e w' => e = .returned (.tuple #[.int .i64 (panC p), .int .i64 (panS p), .int .i64 (panK p)]) ∧ G w w' := by
  cases hp : inB p (-1000) 1000
  · have H1 := Lib.hid (show panC p = 0 by unfold panC; rw [if_pos hp])
    have H2 := Lib.hid (show panS p = 0 by unfold panS; rw [if_pos hp])
    have H3 := Lib.hid (show panK p = 2 by unfold panK; rw [if_pos hp])
    go_enter Tryd.func13, Tryd.ntmps13
    go_wp2_with (go_at_call 33; refine (l00In_any _ _ _ _).mono ?_; rintro e w' ⟨rfl, rfl⟩)
    go_ret3
    exact ⟨ret_iii H1.out H2.out H3.out, G.refl _⟩
  · have H1 := Lib.hid (show panC p = snA ((p + 1000) * 45 + 90000) by unfold panC; rw [if_neg (by rw [hp]; simp)])
    have H2 := Lib.hid (show panS p = snA ((p + 1000) * 45) by unfold panS; rw [if_neg (by rw [hp]; simp)])
    have H3 := Lib.hid (show panK p = 0 by unfold panK; rw [if_neg (by rw [hp]; simp)])
    have hb := inB_iff.1 hp
    have K := Lib.hid (l19Pan_any p hb.1 hb.2 w)
    obtain ⟨x, HX⟩ : ∃ x, Hid (snA ((p + 1000) * 45 + 90000) = x) := ⟨_, rfl⟩
    obtain ⟨y, HY⟩ : ∃ y, Hid (snA ((p + 1000) * 45) = y) := ⟨_, rfl⟩
    rw [HX.out] at H1 K
    rw [HY.out] at H2 K
    go_enter Tryd.func13, Tryd.ntmps13
    go_wp2_with (first | (go_at_call 33; refine (l00In_any _ _ _ _).mono ?_; rintro e w' ⟨rfl, rfl⟩) | (go_at_call 34; refine K.out.mono ?_; rintro e w1 ⟨rfl, g1⟩))
    go_ret3
    exact ⟨ret_iii H1.out H2.out H3.out, g1⟩

set_option maxRecDepth 20000 in
set_option maxHeartbeats 2000000 in
theorem lawPanFactors (p : Int) (w : World) (ht : Tab w) :
    Calls Tryd.prog 4 #[.int .i64 p] w fun e w' => e = .returned (.bool true) ∧ Below w.heap.size w w' := by
  have K1 := Lib.hid (sPan_any p w)
  have K2 := Lib.hid (fun W (g : G w W) => iPan_any p W (ht.G g))
  obtain ⟨x, HX⟩ : ∃ x, Hid (panC p = x) := ⟨_, rfl⟩
  obtain ⟨y, HY⟩ : ∃ y, Hid (panS p = y) := ⟨_, rfl⟩
  obtain ⟨z, HZ⟩ : ∃ z, Hid (panK p = z) := ⟨_, rfl⟩
  rw [HX.out, HY.out, HZ.out] at K1
  simp only [HX.out, HY.out, HZ.out] at K2
  clear ht
  go_enter Tryd.func4, Tryd.ntmps4
  go_wp2_with (first | (go_at_call 13; refine K1.out.mono ?_; rintro e w1 ⟨rfl, g1⟩) | (go_at_call 9; refine (K2.out _ g1).mono ?_; rintro e w2 ⟨rfl, g2⟩))
  go_ret
  exact ⟨rfl, g1.trans g2⟩
end Go.Proofs.YtnnhffehboknnaaDoor
