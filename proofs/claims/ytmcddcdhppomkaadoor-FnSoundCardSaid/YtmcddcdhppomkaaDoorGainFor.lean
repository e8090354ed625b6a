/-
  Walks: GainFactor, GainFor, HeadroomOf, by both texts, and their laws.
-/
import Derived.Test.YtmcddcdhppomkaaDoorFactor
import Derived.Test.YtmcddcdhppomkaaDoorSamples
namespace Go.Proofs.YtmcddcdhppomkaaDoor
open Go.RowKit

def gfR (g : Int) : Int × Int := if inB g (-6000) 600 then (gf g, 0) else (0, 2)

set_option maxHeartbeats 1000000 in
theorem sGainFactor_any (g : Int) (w : World) :
    Calls Tryd.prog 11 #[.int .i64 g] w fun e w' => e = .returned (.tuple #[.int .i64 (gfR g).1, .int .i64 (gfR g).2]) ∧ G w w' := by
  cases h1 : inB g (-6000) 600
  · have HD := Lib.hid (show gfR g = (0, 2) by simp [gfR, h1])
    go_enter Tryd.func11, Tryd.ntmps11
    go_wp2_with (go_at_call 28; refine (l19Gain_any _ _).mono ?_; rintro e w' ⟨rfl, rfl⟩)
    go_ret2
    exact ⟨ret_ii HD.out, G.refl _⟩
  · have HD := Lib.hid (show gfR g = (gf g, 0) by simp [gfR, h1])
    have hb := inB_iff.1 h1
    go_enter Tryd.func11, Tryd.ntmps11
    go_wp2_with (first | (go_at_call 28; refine (l19Gain_any _ _).mono ?_; rintro e w' ⟨rfl, rfl⟩) | (go_at_call 29; refine (l19Factor_any _ (by omega) (by omega) _).mono ?_; rintro e w' ⟨rfl, hb1⟩))
    go_ret2
    exact ⟨ret_ii HD.out, by assumption⟩

/-- The least gain from g on, at most n of them, with at least a factor. -/
def gforN (f : Int) : Nat → Int → Int × Int
  | 0, _ => (0, 3)
  | n + 1, g => if f ≤ gf g then (g, 0) else gforN f n (g + 1)
theorem gforN_hit {f g : Int} {n : Nat} (h : f ≤ gf g) : gforN f (n + 1) g = (g, 0) := by simp [gforN, h]
theorem gforN_miss {f g : Int} {n : Nat} (h : ¬ f ≤ gf g) : gforN f (n + 1) g = gforN f n (g + 1) := by simp [gforN, h]
def gforR (f : Int) : Int × Int := if inB f 0 1000000000000 then gforN f 6601 (-6000) else (0, 2)

end Go.Proofs.YtmcddcdhppomkaaDoor
