/-
  Walks: HeadroomOf, by both texts.
-/
import Derived.Test.YtmcddcdhppomkaaDoorGainFor
namespace Go.Proofs.YtmcddcdhppomkaaDoor
open Go.RowKit

/-- The greatest gain from g down, at most n steps, that does not clip. -/
def headN (p : Int) : Nat → Int → Int
  | 0, g => g
  | n + 1, g => if near (p * gf g) 1000000 > 32767 then headN p n (g - 1) else g
theorem headN_down {p g : Int} {n : Nat} (h : near (p * gf g) 1000000 > 32767) : headN p (n + 1) g = headN p n (g - 1) := by rw [headN, if_pos h]
theorem headN_stop {p g : Int} {n : Nat} (h : ¬ near (p * gf g) 1000000 > 32767) : headN p (n + 1) g = g := by rw [headN, if_neg h]
theorem gf_zero : gf 0 = 1000000 := by decide +kernel
theorem near_unit (p : Int) (h : 0 ≤ p) : near (p * 1000000) 1000000 = p := by
  rw [near_pos (by omega)]
  omega
def headR (L : List Int) : Int × Int := if vs L then (headN (peakL L) 601 600, 0) else (0, 1)

set_option maxHeartbeats 1000000 in
theorem iHeadroomOf_any (A : Option Addr) (n c : Nat) (L : List Int) (w : World) (hr : Rd w A 1 iv L) (hn : L.length = n) (hb : n ≤ 4194304) :
    Calls Tryd.prog 8 #[.slice A n c] w fun e w' => e = .returned (.tuple #[.int .i64 (headR L).1, .int .i64 (headR L).2]) ∧ G w w' := by
  cases hv : vs L
  · have HD := Lib.hid (show headR L = (0, 1) by simp [headR, hv])
    go_enter Tryd.func8, Tryd.ntmps8
    go_wp2_with (go_at_call 21; refine (validSamples_any _ _ _ L _ hr hn hb).mono ?_; rintro e w' ⟨rfl, rfl⟩)
    go_ret2
    exact ⟨ret_ii HD.out, G.refl _⟩
  · have HD := Lib.hid (show headR L = (headN (peakL L) 601 600, 0) by simp [headR, hv])
    have ha := vs_all hv
    have hp := peakL_bd ha.2
    obtain ⟨p, HP⟩ : ∃ p, Hid (peakL L = p) := ⟨_, rfl⟩
    rw [HP.out] at hp
    go_enter Tryd.func8, Tryd.ntmps8
    go_wp2_with (first | (go_at_call 21; refine (validSamples_any _ _ _ L _ hr hn hb).mono ?_; rintro e w' ⟨rfl, rfl⟩; rw [hv]) | (go_at_call 26; refine (peakOf_any _ _ _ L _ hr hn (by omega) ha.2).mono ?_; rintro e w' ⟨rfl, rfl⟩; rw [HP.out]))
    go_loopw [5] (fun v wr => ∃ (g : Int) (m : Nat), v = .int .i64 g ∧ 0 ≤ g ∧ g = m ∧ g ≤ 600 ∧ headR L = (headN p (m + 1) g, 0) ∧ G w wr) (fun v _ => (intOf v).toNat)
    case atStart => exact ⟨600, 600, rfl, by omega, rfl, by omega, by rw [HD.out, HP.out], G.refl _⟩
    case round =>
      obtain ⟨g, m, rfl, hg0, hgm, hg1, hR, hG⟩ := hrel
      have HR := Lib.hid hR
      have HG := Lib.hid hG
      have HGM := Lib.hid hgm
      have hgf := gf_bd g (by omega) (by omega)
      have hm := mul_bd (x := gf g) (X := 1900000000) (y := p) (Y := 32767) hgf hp
      rw [Int.mul_comm (gf g) p] at hm
      clear hR hG hgm
      by_cases hx : near (p * gf g) 1000000 > 32767
      · have hgp : 0 < g := by
          rcases Int.lt_or_le 0 g with h | h
          · exact h
          · exfalso
            obtain rfl : g = 0 := by omega
            rw [gf_zero, near_unit _ hp.1] at hx
            omega
        have H1 := Lib.hid (headN_down (n := m) hx)
        go_wp2_with (first | (go_at_call 23; refine (gainFactor_any _ (by omega) (by omega) _).mono ?_; rintro e w' ⟨rfl, hb1⟩) | (go_at_call 25; refine (nearest_any _ _ (by omega) (by omega) (by omega) (by omega) _).mono ?_; rintro e w' ⟨rfl, n1, rfl⟩))
        go_roundw
        case rel => exact ⟨g - 1, m - 1, rfl, by omega, by have := HGM.out; omega, by omega, by rw [HR.out, H1.out, show m - 1 + 1 = m by have := HGM.out; omega], HG.out.trans (G.drewN (by assumption) _)⟩
        case measure => simp [intOf]; omega
      · have H1 := Lib.hid (headN_stop (n := m) hx)
        go_wp2_with (first | (go_at_call 23; refine (gainFactor_any _ (by omega) (by omega) _).mono ?_; rintro e w' ⟨rfl, hb1⟩) | (go_at_call 25; refine (nearest_any _ _ (by omega) (by omega) (by omega) (by omega) _).mono ?_; rintro e w' ⟨rfl, n1, rfl⟩))
        go_ret2
        exact ⟨ret_ii (by rw [HR.out, H1.out]), HG.out.trans (G.drewN (by assumption) _)⟩

end Go.Proofs.YtmcddcdhppomkaaDoor
