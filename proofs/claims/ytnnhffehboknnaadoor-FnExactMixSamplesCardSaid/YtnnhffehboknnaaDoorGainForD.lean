/-
  Walks: GainFactor, GainFor, HeadroomOf, by both texts, and their laws.
-/
import Derived.Test.YtnnhffehboknnaaDoorFactorD
import Derived.Test.YtnnhffehboknnaaDoorSamplesD
namespace Go.Proofs.YtnnhffehboknnaaDoor
open Go.RowKit

def gfR (g : Int) : Int × Int := if inB g (-6000) 600 then (gf g, 0) else (0, 2)

set_option maxHeartbeats 1000000 in
theorem iGainFactor_any (g : Int) (w : World) :
    Calls Tryd.prog 7 #[.int .i64 g] w fun e w' => e = .returned (.tuple #[.int .i64 (gfR g).1, .int .i64 (gfR g).2]) ∧ G w w' := by
  cases h1 : inB g (-6000) 600
  · have HD := Lib.hid (show gfR g = (0, 2) by simp [gfR, h1])
    go_enter Tryd.func7, Tryd.ntmps7
    go_wp2_with (go_at_call 27; refine (isGain_any _ _).mono ?_; rintro e w' ⟨rfl, rfl⟩)
    go_ret2
    exact ⟨ret_ii HD.out, G.refl _⟩
  · have HD := Lib.hid (show gfR g = (gf g, 0) by simp [gfR, h1])
    have hb := inB_iff.1 h1
    go_enter Tryd.func7, Tryd.ntmps7
    go_wp2_with (first | (go_at_call 27; refine (isGain_any _ _).mono ?_; rintro e w' ⟨rfl, rfl⟩) | (go_at_call 28; refine (gainFactor_any _ (by omega) (by omega) _).mono ?_; rintro e w' ⟨rfl, hb1⟩))
    go_ret2
    exact ⟨ret_ii HD.out, by assumption⟩
/-- The least gain from g on, at most n of them, with at least a factor. -/
def gforN (f : Int) : Nat → Int → Int × Int
  | 0, _ => (0, 3)
  | n + 1, g => if f ≤ gf g then (g, 0) else gforN f n (g + 1)
theorem gforN_hit {f g : Int} {n : Nat} (h : f ≤ gf g) : gforN f (n + 1) g = (g, 0) := by simp [gforN, h]
theorem gforN_miss {f g : Int} {n : Nat} (h : ¬ f ≤ gf g) : gforN f (n + 1) g = gforN f n (g + 1) := by simp [gforN, h]
def gforR (f : Int) : Int × Int := if inB f 0 1000000000000 then gforN f 6601 (-6000) else (0, 2)

set_option maxHeartbeats 1000000 in
theorem iGainFor_any (f : Int) (w : World) :
    Calls Tryd.prog 8 #[.int .i64 f] w fun e w' => e = .returned (.tuple #[.int .i64 (gforR f).1, .int .i64 (gforR f).2]) ∧ G w w' := by
  cases h1 : inB f 0 1000000000000
  · have HD := Lib.hid (show gforR f = (0, 2) by simp [gforR, h1])
    go_enter Tryd.func8, Tryd.ntmps8
    go_wp2_with (go_at_call 29; refine (within_any _ _ _ _).mono ?_; rintro e w' ⟨rfl, rfl⟩)
    go_ret2
    exact ⟨ret_ii HD.out, G.refl _⟩
  · have HD := Lib.hid (show gforR f = gforN f 6601 (-6000) by simp [gforR, h1])
    have hf := inB_iff.1 h1
    go_enter Tryd.func8, Tryd.ntmps8
    go_wp2_with (go_at_call 29; refine (within_any _ _ _ _).mono ?_; rintro e w' ⟨rfl, rfl⟩)
    go_loopw [4] (fun v wr => ∃ (g : Int) (m : Nat), v = .int .i64 g ∧ -6000 ≤ g ∧ g + m = 601 ∧ gforR f = gforN f m g ∧ G w wr) (fun v _ => (601 - intOf v).toNat)
    case atStart => exact ⟨-6000, 6601, rfl, by omega, by omega, HD.out, G.refl _⟩
    case round =>
      obtain ⟨g, m, rfl, hg0, hgm, hR, hG⟩ := hrel
      have HR := Lib.hid hR
      have HG := Lib.hid hG
      clear hR hG
      by_cases hlt : g ≤ 600
      · obtain ⟨m', rfl⟩ : ∃ m', m = m' + 1 := ⟨m - 1, by omega⟩
        by_cases hhit : f ≤ gf g
        · have H1 := Lib.hid (gforN_hit (n := m') hhit)
          go_wp2_with (go_at_call 28; refine (gainFactor_any _ (by omega) (by omega) _).mono ?_; rintro e w' ⟨rfl, hb1⟩)
          go_ret2
          exact ⟨ret_ii (by rw [HR.out, H1.out]), HG.out.trans (by assumption)⟩
        · have H1 := Lib.hid (gforN_miss (n := m') hhit)
          go_wp2_with (go_at_call 28; refine (gainFactor_any _ (by omega) (by omega) _).mono ?_; rintro e w' ⟨rfl, hb1⟩)
          go_roundw
          case rel => exact ⟨g + 1, m', rfl, by omega, by omega, by rw [HR.out, H1.out], HG.out.trans (by assumption)⟩
          case measure => simp [intOf]; omega
      · obtain rfl : m = 0 := by omega
        go_wp2
        go_ret2
        exact ⟨ret_ii (by rw [HR.out]; rfl), HG.out⟩

end Go.Proofs.YtnnhffehboknnaaDoor
