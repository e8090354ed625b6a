/-
  Plain law (door seat S1D): factors rise with gains, gains are found from them.
-/
import Derived.Test.YtmcddcdhppomkaaDoorGainFor
import Derived.Test.YtmcddcdhppomkaaDoorPanLaw
namespace Go.Proofs.YtmcddcdhppomkaaDoor
open Go.RowKit

def gfOk (k : Nat) : Bool := decide (1 ≤ gf ((k : Int) - 6000)) && decide (gf ((k : Int) - 6000) ≤ gf ((k : Int) - 6000 + 1))
theorem gfOk_all : ((List.range 6600).all gfOk) = true := by kernel_rfl
theorem gfOk_at {g : Int} (h0 : -6000 ≤ g) (h1 : g < 600) : 1 ≤ gf g ∧ gf g ≤ gf (g + 1) := by
  have := List.all_eq_true.1 gfOk_all (g + 6000).toNat (List.mem_range.2 (by omega))
  unfold gfOk at this
  rw [show (((g + 6000).toNat : Nat) : Int) - 6000 = g by omega] at this
  simpa using this
theorem gf_rises : ∀ (n : Nat) (a : Int), -6000 ≤ a → a + n ≤ 600 → gf a ≤ gf (a + n)
  | 0, a, _, _ => by simp
  | n + 1, a, h0, h1 => by
    have h2 := gf_rises n a h0 (by omega)
    have h3 := (gfOk_at (g := a + n) (by omega) (by omega)).2
    rw [show a + (n : Int) + 1 = a + ((n + 1 : Nat) : Int) by omega] at h3
    omega
theorem gf_le {a b : Int} (h0 : -6000 ≤ a) (h : a ≤ b) (h1 : b ≤ 600) : gf a ≤ gf b := by
  have := gf_rises (b - a).toNat a h0 (by omega)
  rw [show a + ((b - a).toNat : Int) = b by omega] at this
  exact this
theorem gforN_found {f g : Int} (hf : f ≤ gf g) : ∀ (m : Nat) (a : Int), a ≤ g → g < a + m → ∃ b, gforN f m a = (b, 0) ∧ a ≤ b ∧ b ≤ g ∧ f ≤ gf b
  | 0, a, h0, h1 => by omega
  | m + 1, a, h0, h1 => by
    by_cases h : f ≤ gf a
    · exact ⟨a, gforN_hit h, Int.le_refl _, h0, h⟩
    · have hne : a ≠ g := fun e => h (e ▸ hf)
      obtain ⟨b, hb, h2, h3, h4⟩ := gforN_found hf m (a + 1) (by omega) (by omega)
      exact ⟨b, by rw [gforN_miss h]; exact hb, by omega, h3, h4⟩
/-- A gain's factor gives a gain back, not greater, of the same factor. -/
theorem gain_back {g : Int} (h0 : -6000 ≤ g) (h1 : g < 600) : ∃ b, gforR (gf g) = (b, 0) ∧ -6000 ≤ b ∧ b ≤ g ∧ gf b = gf g := by
  have hk := gfOk_at h0 h1
  have hb := gf_bd g h0 (by omega)
  obtain ⟨b, e, h2, h3, h4⟩ := gforN_found (Int.le_refl (gf g)) 6601 (-6000) h0 (by omega)
  refine ⟨b, ?_, h2, h3, ?_⟩
  · unfold gforR
    rw [inB_mk (by omega)]
    exact e
  · have := gf_le h2 h3 (by omega)
    omega
theorem pan_facts {p : Int} (h0 : -1000 ≤ p) (h1 : p ≤ 1000) : panC (-p) = panS p ∧ panS (-p) = panC p ∧ 0 ≤ panC p ∧ panC p ≤ 1000000 ∧ 0 ≤ panS p ∧ panS p ≤ 1000000 ∧
    panC p * panC p + panS p * panS p - 1000000000000 < 1000000000 ∧ -1000000000 < panC p * panC p + panS p * panS p - 1000000000000 ∧ panK p = 0 ∧ panK (-p) = 0 := by
  have key : ∀ q : Int, -1000 ≤ q → q ≤ 1000 → panS (-q) = panC q ∧ 0 ≤ panS q ∧ panS q ≤ 1000000 ∧ panC q * panC q + panS q * panS q - 1000000000000 < 1000000000 ∧ -1000000000 < panC q * panC q + panS q * panS q - 1000000000000 ∧ panK q = 0 := by
    intro q h0 h1
    have := List.all_eq_true.1 panOk_all (q + 1000).toNat (List.mem_range.2 (by omega))
    unfold panOk at this
    rw [show (((q + 1000).toNat : Nat) : Int) = q + 1000 by omega, show ((2000 - (q + 1000).toNat : Nat) : Int) = -q + 1000 by omega] at this
    simp only [Bool.and_eq_true, decide_eq_true_eq] at this
    unfold panS panC panK
    rw [inB_mk (show -1000 ≤ q ∧ q ≤ 1000 from ⟨h0, h1⟩), inB_mk (show -1000 ≤ -q ∧ -q ≤ 1000 by omega)]
    simp only [Bool.true_eq_false, if_false]
    obtain ⟨⟨⟨⟨t1, t2⟩, t3⟩, t4⟩, t5⟩ := this
    exact ⟨t1, t2, t3, t4, t5, trivial⟩
  obtain ⟨a1, a2, a3, a4, a5, a6⟩ := key p h0 h1
  obtain ⟨b1, b2, b3, _, _, b6⟩ := key (-p) (by omega) (by omega)
  rw [Int.neg_neg] at b1
  exact ⟨b1.symm, a1, a1 ▸ b2, a1 ▸ b3, a2, a3, a4, a5, a6, b6⟩
theorem fade_between {a b t : Int} (h0 : 0 ≤ t) (h1 : t ≤ 100) : min a b ≤ a + near ((b - a) * t) 100 ∧ a + near ((b - a) * t) 100 ≤ max a b := by
  rcases Int.le_total a b with h | h
  · have m0 := Int.mul_nonneg (show 0 ≤ b - a by omega) h0
    have m1 := Int.mul_le_mul_of_nonneg_left h1 (show 0 ≤ b - a by omega)
    rw [near_pos m0]
    omega
  · have m0 := Int.mul_nonneg (show 0 ≤ a - b by omega) h0
    have m1 := Int.mul_le_mul_of_nonneg_left h1 (show 0 ≤ a - b by omega)
    have e : (b - a) * t = -((a - b) * t) := by rw [← Int.neg_mul]; congr 1; omega
    rw [e]
    obtain ⟨z, hz⟩ : ∃ z, (a - b) * t = z := ⟨_, rfl⟩
    rw [hz] at m0 m1 ⊢
    by_cases hz0 : z = 0
    · subst hz0
      have : near (-0) 100 = 0 := by decide
      rw [this]; omega
    · rw [near_neg (by omega)]
      omega
end Go.Proofs.YtmcddcdhppomkaaDoor
