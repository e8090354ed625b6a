/-
  Plain laws of frames and time codes. No program in sight.
-/
import Derived.Test.YtcoaldhmofdfgaaDoorTxtM
namespace Go.Proofs.YtcoaldhmofdfgaaDoor
open Go.RowKit

structure SCode where
  Hours : Int
  Minutes : Int
  Seconds : Int
  Frames : Int
  Rate : Int
def rateB (r : Int) : Bool := decide (r = 24 ∨ r = 25 ∨ r = 30)
theorem rateB_iff {r : Int} : rateB r = true ↔ (r = 24 ∨ r = 25 ∨ r = 30) := by unfold rateB; simp
theorem rateB_no {r : Int} : rateB r = false ↔ (r ≠ 24 ∧ r ≠ 25 ∧ r ≠ 30) := by unfold rateB; simp
def tcP (c : SCode) : Prop := (c.Rate = 24 ∨ c.Rate = 25 ∨ c.Rate = 30) ∧ (0 ≤ c.Hours ∧ c.Hours ≤ 23) ∧ (0 ≤ c.Minutes ∧ c.Minutes ≤ 59) ∧ (0 ≤ c.Seconds ∧ c.Seconds ≤ 59) ∧ (0 ≤ c.Frames ∧ c.Frames ≤ c.Rate - 1) ∧ (c.Rate = 30 → 0 < c.Seconds ∨ 1 < c.Frames ∨ c.Minutes % 10 = 0)
def frN (c : SCode) : Int := ((c.Hours * 60 + c.Minutes) * 60 + c.Seconds) * c.Rate + c.Frames - (if c.Rate = 30 then 2 * ((c.Hours * 60 + c.Minutes) - (c.Hours * 60 + c.Minutes) / 10) else 0)
def dayN (r : Int) : Int := r * 86400 - (if r = 30 then 2592 else 0)
/-- The frame's number with the codes that are left out. -/
def fullN (f r : Int) : Int := if r = 30 then (if 1800 ≤ f % 17982 then f + 18 * (f / 17982) + 2 * ((f % 17982 - 1800) / 1798 + 1) else f + 18 * (f / 17982)) else f
def cAt (f r : Int) : SCode := ⟨fullN f r / r / 3600, fullN f r / r / 60 % 60, fullN f r / r % 60, fullN f r % r, r⟩
theorem mz1 {m z : Int} : (1800 * m + z) / 30 = 60 * m + z / 30 ∧ (1800 * m + z) % 30 = z % 30 := by omega
theorem mz2 {m c : Int} (z0 : 0 ≤ c) (z1 : c < 60) : (60 * m + c) / 60 = m ∧ (60 * m + c) % 60 = c := by omega
theorem mz3 (a : Int) : a / 3600 = a / 60 / 60 := by omega
theorem code_back {f r : Int} (hr : r = 24 ∨ r = 25 ∨ r = 30) (h0 : 0 ≤ f) (h1 : f ≤ dayN r - 1) : tcP (cAt f r) ∧ frN (cAt f r) = f := by
  rcases hr with rfl | rfl | rfl
  · have e : fullN f 24 = f := by unfold fullN; rw [if_neg (by decide)]
    unfold dayN at h1
    rw [if_neg (by decide)] at h1
    refine ⟨⟨.inl rfl, ?_, ?_, ?_, ?_, fun h => absurd h (by show ¬ (24 : Int) = 30; decide)⟩, ?_⟩
    · simp only [cAt, e]; omega
    · simp only [cAt, e]; omega
    · simp only [cAt, e]; omega
    · simp only [cAt, e]; omega
    · simp only [frN, cAt, e]; rw [if_neg (by decide)]; omega
  · have e : fullN f 25 = f := by unfold fullN; rw [if_neg (by decide)]
    unfold dayN at h1
    rw [if_neg (by decide)] at h1
    refine ⟨⟨.inr (.inl rfl), ?_, ?_, ?_, ?_, fun h => absurd h (by show ¬ (25 : Int) = 30; decide)⟩, ?_⟩
    · simp only [cAt, e]; omega
    · simp only [cAt, e]; omega
    · simp only [cAt, e]; omega
    · simp only [cAt, e]; omega
    · simp only [frN, cAt, e]; rw [if_neg (by decide)]; omega
  · unfold dayN at h1
    rw [if_pos rfl] at h1
    obtain ⟨t, ht⟩ : ∃ t, f / 17982 = t := ⟨_, rfl⟩
    obtain ⟨q, hq⟩ : ∃ q, f % 17982 = q := ⟨_, rfl⟩
    have hf : f = 17982 * t + q := by omega
    have hq0 : 0 ≤ q ∧ q < 17982 := by omega
    have ht0 : 0 ≤ t ∧ t ≤ 143 := by omega
    have key : ∃ m z : Int, fullN f 30 = 1800 * m + z ∧ 0 ≤ z ∧ z < 1800 ∧ 0 ≤ m ∧ m < 1440 ∧ (m % 10 ≠ 0 → 2 ≤ z) ∧ 1800 * m + z - 2 * (m - m / 10) = f := by
      unfold fullN
      rw [if_pos rfl, ht, hq]
      by_cases h : 1800 ≤ q
      · rw [if_pos h]
        obtain ⟨k, hk⟩ : ∃ k, (q - 1800) / 1798 = k := ⟨_, rfl⟩
        rw [hk]
        have hk1 : q = 1800 + 1798 * k + (q - 1800 - 1798 * k) := by omega
        have hk2 : 0 ≤ q - 1800 - 1798 * k ∧ q - 1800 - 1798 * k < 1798 := by omega
        exact ⟨10 * t + (k + 1), q - 1800 - 1798 * k + 2, by omega, by omega, by omega, by omega, by omega, by omega, by omega⟩
      · rw [if_neg h]
        exact ⟨10 * t, q, by omega, by omega, by omega, by omega, by omega, by omega, by omega⟩
    obtain ⟨m, z, e, z0, z1, m0, m1, hz, hb⟩ := key
    obtain ⟨e1, e2⟩ := mz1 (m := m) (z := z)
    obtain ⟨e3, e4⟩ := mz2 (m := m) (c := z / 30) (by omega) (by omega)
    have eS : (cAt f 30).Seconds = z / 30 := by simp only [cAt, e, e1]; exact e4
    have eF : (cAt f 30).Frames = z % 30 := by simp only [cAt, e]; exact e2
    have eM : (cAt f 30).Minutes = m % 60 := by simp only [cAt, e, e1, e3]
    have eH : (cAt f 30).Hours = m / 60 := by simp only [cAt, e, e1]; rw [mz3, e3]
    clear ht hq hf hq0 ht0 h0 h1 e e1 e2 e3 e4
    refine ⟨⟨.inr (.inr rfl), ?_, ?_, ?_, ?_, fun _ => ?_⟩, ?_⟩
    · rw [eH]; omega
    · rw [eM]; omega
    · rw [eS]; omega
    · rw [eF]; show _ ∧ _ ≤ (30 : Int) - 1; omega
    · rw [eS, eF, eM]
      by_cases hm : m % 10 = 0
      · right; right; omega
      · have := hz hm
        by_cases h3 : 30 ≤ z
        · left; omega
        · right; left; omega
    · unfold frN
      rw [if_pos (show (cAt f 30).Rate = 30 from rfl), eH, eM, eS, eF]
      rw [show (cAt f 30).Rate = 30 from rfl, show m / 60 * 60 + m % 60 = m by omega]
      omega
def msN (f r : Int) : Int := if r = 30 then f * 1001 / 30 else f * 1000 / r
def fAt (m r : Int) : Int := if r = 30 then ((m + 1) * 30 - 1) / 1001 else ((m + 1) * r - 1) / 1000
theorem frame_at {m r : Int} (hr : r = 24 ∨ r = 25 ∨ r = 30) (h0 : 0 ≤ m) (h1 : m ≤ 86400000) : 0 ≤ fAt m r ∧ fAt m r + 1 ≤ 8640000 ∧ msN (fAt m r) r ≤ m ∧ m < msN (fAt m r + 1) r := by
  rcases hr with rfl | rfl | rfl
  · unfold fAt msN; rw [if_neg (by decide), if_neg (by decide), if_neg (by decide)]; omega
  · unfold fAt msN; rw [if_neg (by decide), if_neg (by decide), if_neg (by decide)]; omega
  · unfold fAt msN; rw [if_pos rfl, if_pos rfl, if_pos rfl]; omega
/-- Two digits. -/
def twoL (n : Int) : List UInt8 := [UInt8.ofNat (48 + n.toNat / 10), UInt8.ofNat (48 + n.toNat % 10)]
theorem two_small {n : Int} (h0 : 0 ≤ n) (h1 : n < 10) : twoL n = 48 :: Lib.itoa n := by
  unfold twoL Lib.itoa
  rw [if_neg (by omega), Lib.decDigits_one (by omega), show n.toNat / 10 = 0 by omega, show n.toNat % 10 = n.toNat by omega]
  rfl
theorem two_big {n : Int} (h0 : 10 ≤ n) (h1 : n < 100) : twoL n = Lib.itoa n := by
  unfold twoL Lib.itoa
  rw [if_neg (by omega), Lib.decDigits_two (by omega) (by omega)]
def cdL (c : SCode) : List UInt8 := twoL c.Hours ++ 58 :: twoL c.Minutes ++ 58 :: twoL c.Seconds ++ 58 :: twoL c.Frames ++ 64 :: twoL c.Rate
theorem cdL_len (c : SCode) : (cdL c).length = 14 := rfl
def partN (c : SCode) : List Int := [c.Hours, c.Minutes, c.Seconds, c.Frames, c.Rate]
theorem cdL_part (c : SCode) {i : Nat} {n : Int} (h : (partN c)[i]? = some n) : ((cdL c).drop (3 * i)).take (3 * i + 2 - 3 * i) = twoL n := by
  match i, h with
  | 0, h => simp only [partN, List.getElem?_cons_zero, Option.some.injEq] at h; subst h; rfl
  | 1, h => simp only [partN, List.getElem?_cons_succ, List.getElem?_cons_zero, Option.some.injEq] at h; subst h; rfl
  | 2, h => simp only [partN, List.getElem?_cons_succ, List.getElem?_cons_zero, Option.some.injEq] at h; subst h; rfl
  | 3, h => simp only [partN, List.getElem?_cons_succ, List.getElem?_cons_zero, Option.some.injEq] at h; subst h; rfl
  | 4, h => simp only [partN, List.getElem?_cons_succ, List.getElem?_cons_zero, Option.some.injEq] at h; subst h; rfl
  | i + 5, h => simp [partN] at h
theorem two_parse {n : Int} (h0 : 0 ≤ n) (h1 : n < 100) : Lib.parseUintM 4294967295 0 (twoL n) = .ok n.toNat := by
  have a0 := digit_byte (n.toNat / 10) (by omega)
  have a1 := digit_byte (n.toNat % 10) (by omega)
  unfold twoL
  simp only [Lib.parseUintM]
  rw [a0, a1, if_pos (by omega), if_neg (by omega), if_neg (by omega), if_pos (by omega), if_neg (by omega), if_neg (by omega)]
  congr 1
  omega
theorem tcP_bd {c : SCode} (h : tcP c) {i : Nat} {n : Int} (hi : (partN c)[i]? = some n) : 0 ≤ n ∧ n < 100 := by
  obtain ⟨hr, hh, hm, hs, hf, -⟩ := h
  have hm2 : n ∈ partN c := List.mem_of_getElem? hi
  simp only [partN, List.mem_cons, List.mem_nil_iff, or_false] at hm2
  rcases hm2 with rfl | rfl | rfl | rfl | rfl <;> omega
end Go.Proofs.YtcoaldhmofdfgaaDoor
