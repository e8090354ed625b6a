/-
  Plain law: the float root of a whole number that is not too large is a whole number that is not too large. No more is asked of it.
-/
import GoSem.Core.Float
namespace Go.Proofs.YtmcddcdhppomkaaDoor
open Ieee

/-- A word reads as a number, not negative, whose digits are at most 53 and whose place is at most 0. -/
def Small (d : Datum) : Prop := ∃ (m : Nat) (p : Int), d = .number false m p ∧ m < 2 ^ 53 ∧ p ≤ 0
theorem cut_le {M drop K : Nat} (h : M / 2 ^ drop < K) (hK : 1 ≤ K) : Toward.even.cut false M drop ≤ K := by
  unfold Toward.cut
  simp only [Nat.shiftLeft_eq, Nat.one_mul]
  have hb : ∀ b : Bool, b.toNat ≤ 1 := fun b => by cases b <;> decide
  have h1 : M / 2 ^ min drop (M.log2 + 2) < K := by
    rcases Nat.le_total drop (M.log2 + 2) with hd | hd
    · rw [Nat.min_eq_left hd]; exact h
    · rw [Nat.min_eq_right hd, Nat.div_eq_of_lt]
      · omega
      · exact Nat.lt_of_lt_of_le Nat.lt_log2_self (Nat.pow_le_pow_right (by omega) (by omega))
  have h2 := hb (decide (2 ^ min drop (M.log2 + 2) < 2 * (M % 2 ^ min drop (M.log2 + 2))) || (2 ^ min drop (M.log2 + 2) == 2 * (M % 2 ^ min drop (M.log2 + 2)) && M / 2 ^ min drop (M.log2 + 2) % 2 == 1))
  omega
set_option maxRecDepth 20000 in
theorem read_rung {g : Nat} (h : g ≤ 1075 * 2 ^ 52) : Small (double.read g) := by
  have e1 : double.signWeight = 2 ^ 63 := rfl
  have e2 : double.binade = 2 ^ 52 := rfl
  have e3 : double.infRung = 2047 * 2 ^ 52 := rfl
  have e4 : double.leastPlace = -1074 := by decide
  have hg : g < 2 ^ 63 := by omega
  unfold Format.read
  rw [e1, e2, e3, e4, Nat.div_eq_of_lt hg, Nat.mod_eq_of_lt hg]
  have hn : ((0 % 2 : Nat) == 1) = false := by decide
  simp only [hn]
  by_cases hb : g < 2 ^ 52
  · rw [if_pos hb]
    exact ⟨g, -1074, rfl, by omega, by omega⟩
  · rw [if_neg hb, if_pos (by omega)]
    refine ⟨_, _, rfl, ?_, ?_⟩
    · have := Nat.mod_lt g (show 0 < 2 ^ 52 by decide)
      omega
    · have : g / 2 ^ 52 ≤ 1075 := by omega
      omega
set_option maxRecDepth 20000 in
theorem write_small {M : Nat} {P : Int} (h : P + M.log2 ≤ 51) : Small (double.read (double.write (.number false M P))) := by
  have e2 : double.binade = 2 ^ 52 := rfl
  have e3 : double.infRung = 2047 * 2 ^ 52 := rfl
  have e4 : double.leastPlace = -1074 := by decide
  have e5 : (double.fractionBits : Int) = 52 := rfl
  unfold Format.write Format.nearest
  by_cases h0 : M = 0
  · simp only [h0, if_true]
    exact read_rung (by simp [Format.word])
  simp only [if_neg h0]
  rw [e2, e3, e4, e5]
  obtain ⟨last, hl⟩ : ∃ last, max (P + (M.log2 : Int) - 52) (-1074) = last := ⟨_, rfl⟩
  rw [hl]
  have hM : M < 2 ^ (M.log2 + 1) := Nat.lt_log2_self
  have hk : Toward.even.cut false (M <<< (P - last).toNat) (last - P).toNat ≤ 2 ^ 53 := by
    refine cut_le ?_ (by decide)
    rw [Nat.shiftLeft_eq]
    rcases Int.le_total last P with hp | hp
    · rw [show (last - P).toNat = 0 by omega, Nat.pow_zero, Nat.div_one]
      have h1 : M.log2 + 1 + (P - last).toNat ≤ 53 := by omega
      calc M * 2 ^ (P - last).toNat < 2 ^ (M.log2 + 1) * 2 ^ (P - last).toNat := Nat.mul_lt_mul_of_pos_right hM (Nat.pow_pos (by decide))
        _ = 2 ^ (M.log2 + 1 + (P - last).toNat) := by rw [← Nat.pow_add]
        _ ≤ 2 ^ 53 := Nat.pow_le_pow_right (by decide) h1
    · rw [show (P - last).toNat = 0 by omega, Nat.pow_zero, Nat.mul_one]
      refine (Nat.div_lt_iff_lt_mul (Nat.pow_pos (by decide))).2 ?_
      rw [← Nat.pow_add]
      exact Nat.lt_of_lt_of_le hM (Nat.pow_le_pow_right (by decide) (by omega))
  have hlast : last ≤ -1 := by omega
  have hlow : -1074 ≤ last := by omega
  have ht : (last - -1074).toNat ≤ 1073 := by omega
  simp only [Format.word, Bool.false_eq_true, if_false]
  refine read_rung (Nat.le_trans (Nat.min_le_left _ _) ?_)
  have : (last - -1074).toNat * 2 ^ 52 ≤ 1073 * 2 ^ 52 := Nat.mul_le_mul_right _ ht
  exact Nat.le_trans (Nat.add_le_add this hk) (by decide)
theorem rootFrom_sq (n : Nat) : ∀ (todo root : Nat), root * root ≤ n → Datum.rootFrom n todo root * Datum.rootFrom n todo root ≤ n
  | 0, _, h => h
  | todo + 1, root, h => by
    unfold Datum.rootFrom
    simp only
    split
    · rename_i h2
      exact rootFrom_sq n todo _ h2
    · exact rootFrom_sq n todo _ h
theorem log2_lt {a k : Nat} (h : a < 2 ^ (k + 1)) : a.log2 ≤ k := by
  rcases Nat.eq_zero_or_pos a with h0 | h0
  · subst h0; simp
  · have := (Nat.log2_lt (by omega)).2 h
    omega
theorem root_small {d : Datum} (h : Small d) : ∃ y, (d.root (double.fractionBits + 2)).map double.write = some y ∧ Small (double.read y) := by
  obtain ⟨m, p, rfl, hm, hp⟩ := h
  unfold Datum.root
  by_cases h0 : m = 0
  · subst h0
    refine ⟨_, rfl, write_small (M := 0) (P := p) ?_⟩
    simp; omega
  simp only [if_neg h0, Bool.false_eq_true, if_false, Option.map_some]
  refine ⟨_, rfl, write_small ?_⟩
  have e5 : double.fractionBits + 2 = 54 := rfl
  rw [e5]
  have hlm : m.log2 ≤ 52 := log2_lt hm
  obtain ⟨more, hmore⟩ : ∃ more, 2 * 54 - m.log2 + ((p - ((2 * 54 - m.log2 : Nat) : Int)) % 2).toNat = more := ⟨_, rfl⟩
  have h1 : 56 ≤ more := by omega
  have h2 : m.log2 + 1 + more ≤ 110 := by omega
  simp only [hmore]
  obtain ⟨n, hn⟩ : ∃ n, m <<< more = n := ⟨_, rfl⟩
  rw [hn]
  have hnb : n < 2 ^ 110 := by
    rw [← hn, Nat.shiftLeft_eq]
    calc m * 2 ^ more < 2 ^ (m.log2 + 1) * 2 ^ more := Nat.mul_lt_mul_of_pos_right Nat.lt_log2_self (Nat.pow_pos (by decide))
      _ = 2 ^ (m.log2 + 1 + more) := by rw [← Nat.pow_add]
      _ ≤ 2 ^ 110 := Nat.pow_le_pow_right (by decide) h2
  have hsq := rootFrom_sq n (n.log2 / 2 + 1) 0 (by omega)
  obtain ⟨r, hr⟩ : ∃ r, Datum.rootFrom n (n.log2 / 2 + 1) 0 = r := ⟨_, rfl⟩
  rw [hr] at hsq ⊢
  have hrb : r < 2 ^ 55 := by
    rcases Nat.lt_or_ge r (2 ^ 55) with h | h
    · exact h
    · exfalso
      have := Nat.mul_le_mul h h
      have e : (2 : Nat) ^ 55 * 2 ^ 55 = 2 ^ 110 := by decide
      omega
  have hb : ∀ b : Bool, b.toNat ≤ 1 := fun b => by cases b <;> decide
  have hB := hb (r * r != n)
  have hl : (2 * r + (r * r != n).toNat).log2 ≤ 56 := log2_lt (by omega)
  omega
theorem toInt_small {d : Datum} (h : Small d) : ∃ v : Int, d.toInt .zero = some v ∧ 0 ≤ v ∧ v < 2 ^ 53 := by
  obtain ⟨m, p, rfl, hm, hp⟩ := h
  unfold Datum.toInt Datum.integral
  simp only
  refine ⟨_, rfl, ?_, ?_⟩
  · unfold signed
    simp
  · unfold signed Toward.cut
    simp only [Bool.false_eq_true, if_false, Nat.shiftLeft_zero, Bool.toNat_false, Nat.add_zero]
    rw [show p.toNat = 0 by omega, Nat.shiftLeft_zero]
    have := Nat.div_le_self m (1 <<< min (-p).toNat (m.log2 + 2))
    omega
/-- The float root of n, made whole. -/
theorem sqrt_weak (n : Nat) (h : n < 2 ^ 51) : ∃ y, double.sqrt (double.write (.number false n 0)) = some y ∧ ∃ v : Int, (double.read y).toInt .zero = some v ∧ 0 ≤ v ∧ v < 2 ^ 53 := by
  have h1 : Small (double.read (double.write (.number false n 0))) := write_small (by have := log2_lt (k := 50) h; omega)
  obtain ⟨y, hy, hs⟩ := root_small h1
  exact ⟨y, hy, toInt_small hs⟩
end Go.Proofs.YtmcddcdhppomkaaDoor
