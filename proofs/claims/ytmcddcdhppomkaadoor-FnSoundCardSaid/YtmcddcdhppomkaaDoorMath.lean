/-
  Plain arithmetic: nearest quotients, bounds; no program in sight.
-/
import Derived.WalkKit
namespace Go.Proofs.YtmcddcdhppomkaaDoor
open Go.RowKit

/-- n lies between low and high. -/
def inB (n lo hi : Int) : Bool := decide (lo ≤ n ∧ n ≤ hi)
theorem inB_iff {n lo hi : Int} : inB n lo hi = true ↔ lo ≤ n ∧ n ≤ hi := by unfold inB; simp
theorem inB_not {n lo hi : Int} : inB n lo hi = false ↔ n < lo ∨ hi < n := by unfold inB; simp; omega
theorem inB_mk {n lo hi : Int} (h : lo ≤ n ∧ n ≤ hi) : inB n lo hi = true := inB_iff.2 h
theorem inB_no {n lo hi : Int} (h : n < lo ∨ hi < n) : inB n lo hi = false := inB_not.2 h

/-- The nearest quotient for b > 0, halves away from 0. -/
def near (a b : Int) : Int := if a < 0 then -((b - 2 * a) / (2 * b)) else (2 * a + b) / (2 * b)

theorem near_neg {a b : Int} (h : a < 0) : near a b = -((b - 2 * a) / (2 * b)) := by unfold near; rw [if_pos h]
theorem near_pos {a b : Int} (h : 0 ≤ a) : near a b = (2 * a + b) / (2 * b) := by unfold near; rw [if_neg (by omega)]

/-- the model's side: quotient and rest, a not negative. -/
theorem half_low {a b : Int} (hb : 0 < b) (h : a % b < b - a % b) : (2 * a + b) / (2 * b) = a / b := by
  have e := Int.mul_ediv_add_emod a b
  have r0 := Int.emod_nonneg a (show b ≠ 0 by omega)
  have : 2 * a + b = (2 * (a % b) + b) + (a / b) * (2 * b) := by
    generalize a / b = q at *
    generalize a % b = r at *
    rw [← e, Int.mul_add, Int.mul_comm q (2 * b), Int.mul_assoc]
    omega
  rw [this, Int.add_mul_ediv_right _ _ (by omega), Int.ediv_eq_zero_of_lt (by omega) (by omega)]
  omega
theorem half_high {a b : Int} (hb : 0 < b) (h : ¬ a % b < b - a % b) : (2 * a + b) / (2 * b) = a / b + 1 := by
  have e := Int.mul_ediv_add_emod a b
  have r1 := Int.emod_lt_of_pos a hb
  have : 2 * a + b = (2 * (a % b) - b) + (a / b + 1) * (2 * b) := by
    generalize a / b = q at *
    generalize a % b = r at *
    rw [← e, Int.mul_add, Int.add_mul, Int.mul_comm q (2 * b), Int.mul_assoc]
    omega
  rw [this, Int.add_mul_ediv_right _ _ (by omega), Int.ediv_eq_zero_of_lt (by omega) (by omega)]
  omega
theorem near_low {a b : Int} (h0 : 0 ≤ a) (hb : 0 < b) (h : a % b < b - a % b) : near a b = a / b := by rw [near_pos h0, half_low hb h]
theorem near_high {a b : Int} (h0 : 0 ≤ a) (hb : 0 < b) (h : ¬ a % b < b - a % b) : near a b = a / b + 1 := by rw [near_pos h0, half_high hb h]
theorem near_mirror {a b : Int} (h : a < 0) : near a b = - near (-a) b := by
  rw [near_neg h, near_pos (by omega)]
  congr 2
  omega
/-- |near a b| is not above |a| (b ≥ 1), and has a's sign. -/
theorem near_bd {a b A : Int} (hb : 0 < b) (h : -A ≤ a ∧ a ≤ A) : -A ≤ near a b ∧ near a b ≤ A := by
  have key : ∀ x : Int, 0 ≤ x → x ≤ A → 0 ≤ (2 * x + b) / (2 * b) ∧ (2 * x + b) / (2 * b) ≤ A := by
    intro x h0 h1
    refine ⟨Int.ediv_nonneg (by omega) (by omega), ?_⟩
    have : (2 * x + b) / (2 * b) < A + 1 := by
      apply Int.ediv_lt_of_lt_mul (by omega)
      have h2 : (A + 1) * (2 * b) = 2 * (A * b) + 2 * b := by rw [Int.add_mul, Int.one_mul, Int.mul_left_comm]
      have h3 : A * 1 ≤ A * b := Int.mul_le_mul_of_nonneg_left (by omega) (by omega)
      omega
    omega
  by_cases h0 : a < 0
  · rw [near_mirror h0, near_pos (by omega)]
    have := key (-a) (by omega) (by omega)
    omega
  · rw [near_pos (by omega)]
    have := key a (by omega) (by omega)
    omega

/-- The absolute value. -/
def absI (n : Int) : Int := if n < 0 then -n else n
theorem absI_neg {n : Int} (h : n < 0) : absI n = -n := by unfold absI; rw [if_pos h]
theorem absI_pos {n : Int} (h : 0 ≤ n) : absI n = n := by unfold absI; rw [if_neg (by omega)]
theorem absI_bd {n A : Int} (h : -A ≤ n ∧ n ≤ A) : 0 ≤ absI n ∧ absI n ≤ A := by unfold absI; split <;> omega
end Go.Proofs.YtmcddcdhppomkaaDoor
