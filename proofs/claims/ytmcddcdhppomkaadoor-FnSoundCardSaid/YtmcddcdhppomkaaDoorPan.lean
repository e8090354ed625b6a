/-
  Walks (door seat S1D): PanFactors, by both texts; its law.
-/
import Derived.Test.YtmcddcdhppomkaaDoorSine
namespace Go.Proofs.YtmcddcdhppomkaaDoor
open Go.RowKit

def panC (p : Int) : Int := if inB p (-1000) 1000 = false then 0 else snA ((p + 1000) * 45 + 90000)
def panS (p : Int) : Int := if inB p (-1000) 1000 = false then 0 else snA ((p + 1000) * 45)
def panK (p : Int) : Int := if inB p (-1000) 1000 = false then 2 else 0
theorem ret_iii {a b c x y z : Int} (h1 : x = a) (h2 : y = b) (h3 : z = c) : Ending.returned (.tuple #[.int .i64 a, .int .i64 b, .int .i64 c]) = .returned (.tuple #[.int .i64 x, .int .i64 y, .int .i64 z]) := by rw [h1, h2, h3]

set_option maxRecDepth 20000 in
set_option maxHeartbeats 2000000 in
theorem iPan_any (p : Int) (w : World) (ht : Tab w) :
    Calls Tryd.prog 34 #[.int .i64 p] w fun e w' => e = .returned (.tuple #[.int .i64 (panC p), .int .i64 (panS p), .int .i64 (panK p)]) ∧ G w w' := by
  cases hp : inB p (-1000) 1000
  · have H1 := Lib.hid (show panC p = 0 by unfold panC; rw [if_pos hp])
    have H2 := Lib.hid (show panS p = 0 by unfold panS; rw [if_pos hp])
    have H3 := Lib.hid (show panK p = 2 by unfold panK; rw [if_pos hp])
    go_enter Tryd.func34, Tryd.ntmps34
    go_wp2_with (go_at_call 40; refine (within_any _ _ _ _).mono ?_; rintro e w' ⟨rfl, rfl⟩)
    go_ret3
    exact ⟨ret_iii H1.out H2.out H3.out, G.refl _⟩
  · have H1 := Lib.hid (show panC p = snA ((p + 1000) * 45 + 90000) by unfold panC; rw [if_neg (by rw [hp]; simp)])
    have H2 := Lib.hid (show panS p = snA ((p + 1000) * 45) by unfold panS; rw [if_neg (by rw [hp]; simp)])
    have H3 := Lib.hid (show panK p = 0 by unfold panK; rw [if_neg (by rw [hp]; simp)])
    have hb := inB_iff.1 hp
    have K1 := Lib.hid (fun W (g : G w W) => iCosine_any ((p + 1000) * 45) (by omega) (by omega) W (ht.G g))
    have K2 := Lib.hid (fun W (g : G w W) => iSine_any ((p + 1000) * 45) (by omega) (by omega) W (ht.G g))
    obtain ⟨x, HX⟩ : ∃ x, Hid (snA ((p + 1000) * 45 + 90000) = x) := ⟨_, rfl⟩
    obtain ⟨y, HY⟩ : ∃ y, Hid (snA ((p + 1000) * 45) = y) := ⟨_, rfl⟩
    rw [HX.out] at H1 K1
    rw [HY.out] at H2 K2
    go_enter Tryd.func34, Tryd.ntmps34
    go_wp2_with (first | (go_at_call 40; refine (within_any _ _ _ _).mono ?_; rintro e w' ⟨rfl, rfl⟩) | (go_at_call 43; refine (K1.out _ (G.refl _)).mono ?_; rintro e w1 ⟨rfl, g1⟩) | (go_at_call 44; refine (K2.out _ g1).mono ?_; rintro e w2 ⟨rfl, g2⟩))
    go_ret3
    exact ⟨ret_iii H1.out H2.out H3.out, g1.trans g2⟩

end Go.Proofs.YtmcddcdhppomkaaDoor
