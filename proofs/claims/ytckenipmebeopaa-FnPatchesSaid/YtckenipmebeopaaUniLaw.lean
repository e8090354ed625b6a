/-
  Plain law of the levels of a universe: at each address the level of the fixture that is found there, 0 elsewhere.
-/
import Derived.Test.YtckenipmebeopaaUniM
import Derived.Test.YtckenipmebeopaaFixtureAt
import Derived.Test.YtckenipmebeopaaDimLevels
namespace Go.Proofs.Ytckenipmebeopaa
open Go.RowKit

theorem spl_get {out r : List Int} {a j : Nat} (h : a + r.length ≤ out.length) : (spl out a r)[j]? = if a ≤ j ∧ j < a + r.length then r[j - a]? else out[j]? := by
  have hta : (out.take a).length = a := by rw [List.length_take]; omega
  unfold spl
  by_cases h1 : j < a
  · rw [if_neg (by omega), List.append_assoc, List.getElem?_append_left (by omega), List.getElem?_take, if_pos h1]
  · by_cases h2 : j < a + r.length
    · rw [if_pos ⟨by omega, h2⟩, List.append_assoc, List.getElem?_append_right (by omega), hta, List.getElem?_append_left (by omega)]
    · rw [if_neg (by omega), List.getElem?_append_right (by simp; omega), List.getElem?_drop]
      congr 1
      simp; omega
theorem hitF_iff {u a : Int} {x : SFixture} : hitF u a x = true ↔ x.Universe = u ∧ x.Address ≤ a ∧ a ≤ x.Address + x.Width - 1 := by
  unfold hitF
  rw [Bool.and_eq_true, inB_iff, decide_eq_true_eq]
theorem hit_share {u a : Int} {x y : SFixture} (hx : hitF u a x = true) (hy : hitF u a y = true) : 0 < shF x y := by
  rw [hitF_iff] at hx hy
  rw [shF_same (by rw [hx.1, hy.1])]
  omega
section
variable {L : List SFixture} {M : List (List Int)} {u : Int}
/-- k fixtures laid: at an address the level of the fixture among them that is there, 0 if none is. -/
theorem uSt_at (hv : vfs L = true) (hf : (L.zip M).all fitB = true) (hm : M.length = L.length) (a : Int) (h0 : 1 ≤ a) (h1 : a ≤ 512) : ∀ k : Nat, k ≤ L.length →
    (∀ i x r, i < k → L[i]? = some x → M[i]? = some r → hitF u a x = true → (uSt u ((L.zip M).take k))[(a - 1).toNat]? = r[(a - x.Address).toNat]?) ∧
    ((∀ i x, i < k → L[i]? = some x → hitF u a x = false) → (uSt u ((L.zip M).take k))[(a - 1).toNat]? = some 0)
  | 0, _ => by
    refine ⟨fun i x r hi => by omega, fun _ => ?_⟩
    show (List.replicate 512 (0 : Int))[(a - 1).toNat]? = some 0
    rw [List.getElem?_replicate, if_pos (by omega)]
  | k + 1, hk => by
    obtain ⟨ih1, ih2⟩ := uSt_at hv hf hm a h0 h1 k (by omega)
    obtain ⟨x, hx⟩ : ∃ x, L[k]? = some x := ⟨_, List.getElem?_eq_getElem (by omega)⟩
    obtain ⟨r, hr⟩ : ∃ r, M[k]? = some r := ⟨_, List.getElem?_eq_getElem (by omega)⟩
    have hz := zip_at hx hr
    have hfit := all_at hf hz
    have hxb := vfB_bd (vfs_at hv hx)
    simp only [fitB, Bool.and_eq_true, beq_iff_eq] at hfit
    have hlen := uSt_len hv hf u k
    have hstep : uSt u ((L.zip M).take (k + 1)) = uStep u (uSt u ((L.zip M).take k)) (x, r) := uSt_snoc hz
    have hget : (uSt u ((L.zip M).take (k + 1)))[(a - 1).toNat]? = if hitF u a x = true then r[(a - x.Address).toNat]? else (uSt u ((L.zip M).take k))[(a - 1).toNat]? := by
      rw [hstep]
      unfold uStep
      simp only
      by_cases hu : x.Universe = u
      · rw [if_pos hu, spl_get (by rw [hlen]; omega)]
        by_cases hh : hitF u a x = true
        · rw [if_pos hh]
          rw [hitF_iff] at hh
          rw [if_pos (by omega)]
          congr 1
          omega
        · rw [if_neg hh]
          rw [hitF_iff] at hh
          rw [if_neg (by omega)]
      · rw [if_neg hu, if_neg (by rw [hitF_iff]; exact fun h => hu h.1)]
    refine ⟨fun i y s hi hy hs hh => ?_, fun hno => ?_⟩
    · rw [hget]
      by_cases hik : i = k
      · subst hik
        rw [hx] at hy
        rw [hr] at hs
        cases hy
        cases hs
        rw [if_pos hh]
      · have hxn : ¬ hitF u a x = true := fun hxh => by
          have h2 := vfs_apart hv hx hy (by omega)
          have h3 := hit_share hh hxh
          omega
        rw [if_neg hxn]
        exact ih1 i y s (by omega) hy hs hh
    · rw [hget, if_neg (by rw [hno k x (by omega) hx]; simp)]
      exact ih2 fun i y hi hy => hno i y (by omega) hy
/-- What UniverseLevels gives, when it gives levels. -/
theorem uniR_ok (h : (uniR L M u).2 = 0) : vfs L = true ∧ inB u 1 8 = true ∧ M.length = L.length ∧ (L.zip M).all fitB = true ∧ uniR L M u = (uSt u (L.zip M), 0) ∧ (uSt u (L.zip M)).length = 512 := by
  cases hv : vfs L
  · exfalso; revert h; unfold uniR; rw [if_pos hv]; simp
  cases hu : inB u 1 8
  · exfalso; revert h; unfold uniR; rw [if_neg (by rw [hv]; simp), if_pos hu]; simp
  by_cases hm : M.length = L.length
  · cases hf : (L.zip M).all fitB
    · exfalso; revert h; unfold uniR; rw [if_neg (by rw [hv]; simp), if_neg (by rw [hu]; simp), if_pos hm, if_neg (by rw [hf]; simp)]; simp
    · have e : uniR L M u = (uSt u (L.zip M), 0) := by unfold uniR; rw [if_neg (by rw [hv]; simp), if_neg (by rw [hu]; simp), if_pos hm, if_pos hf]
      refine ⟨rfl, rfl, hm, rfl, e, ?_⟩
      have := uSt_len hv hf u (L.zip M).length
      rwa [List.take_of_length_le (Nat.le_refl _)] at this
  · exfalso; revert h; unfold uniR; rw [if_neg (by rw [hv]; simp), if_neg (by rw [hu]; simp), if_neg hm]; simp
theorem uniR_bad (h : ¬ (uniR L M u).2 = 0) : (uniR L M u).1 = [] := by
  unfold uniR at h ⊢
  repeat' split
  all_goals first
    | rfl
    | (exfalso; revert h; simp only [*, if_true]; simp)
/-- What is found at an address, and the level there. -/
theorem uni_found (hv : vfs L = true) (hu : inB u 1 8 = true) (hf : (L.zip M).all fitB = true) (hm : M.length = L.length) {a : Int} (h0 : 1 ≤ a) (h1 : a ≤ 512) :
    (∃ (k : Nat) (x : SFixture) (r : List Int) (v : Int) (j : Nat), fixtureAtR L u a = ((k : Int), 0) ∧ L[k]? = some x ∧ M[k]? = some r ∧ a - x.Address = j ∧ j < r.length ∧ r[j]? = some v ∧ (uSt u (L.zip M))[(a - 1).toNat]? = some v) ∨
    (fixtureAtR L u a = (0, 3) ∧ (uSt u (L.zip M))[(a - 1).toNat]? = some 0) := by
  have key := uSt_at (u := u) hv hf hm a h0 h1 L.length (Nat.le_refl _)
  rw [List.take_of_length_le (by rw [List.length_zip]; omega)] at key
  have hd : fixtureAtR L u a = match L.findIdx? (hitF u a) with
    | some k => (k, 0)
    | none => (0, 3) := by
    unfold fixtureAtR
    rw [if_neg (by rw [hv]; simp), if_neg (by rw [hu]; simp), if_neg (by rw [inB_mk ⟨h0, h1⟩]; simp)]
    rfl
  cases hfi : L.findIdx? (hitF u a) with
  | some k =>
    left
    rw [hfi] at hd
    rw [List.findIdx?_eq_some_iff_getElem] at hfi
    obtain ⟨hk, hh, _⟩ := hfi
    have hx : L[k]? = some L[k] := List.getElem?_eq_getElem hk
    have hr : M[k]? = some M[k] := List.getElem?_eq_getElem (by omega)
    have hfit := all_at hf (zip_at hx hr)
    simp only [fitB, Bool.and_eq_true, beq_iff_eq] at hfit
    have h2 := key.1 k _ _ hk hx hr hh
    have h3 := hitF_iff.1 hh
    have hlt : (a - L[k].Address).toNat < M[k].length := by omega
    refine ⟨k, L[k], M[k], M[k][(a - L[k].Address).toNat], (a - L[k].Address).toNat, hd, hx, hr, by omega, hlt, List.getElem?_eq_getElem hlt, ?_⟩
    rw [h2]
    exact List.getElem?_eq_getElem hlt
  | none =>
    right
    rw [hfi] at hd
    refine ⟨hd, key.2 fun i x _ hx => ?_⟩
    rw [List.findIdx?_eq_none_iff] at hfi
    exact hfi x (List.mem_of_getElem? hx)
/-- The levels are levels. -/
theorem uni_lvs (hv : vfs L = true) (hu : inB u 1 8 = true) (hf : (L.zip M).all fitB = true) (hm : M.length = L.length) : lvs (uSt u (L.zip M)) = true := by
  have hl := uSt_len hv hf u (L.zip M).length
  rw [List.take_of_length_le (Nat.le_refl _)] at hl
  unfold lvs
  rw [hl]
  simp only [Nat.le_refl, decide_true, Bool.true_and, List.all_eq_true]
  intro y hy
  obtain ⟨j, hj⟩ := List.mem_iff_getElem?.1 hy
  have hjl := (List.getElem?_eq_some_iff.1 hj).1
  rcases uni_found (M := M) (a := (j : Int) + 1) hv hu hf hm (by omega) (by omega) with ⟨k, x, r, v, i, _, hx, hr, _, _, hi, hs⟩ | ⟨_, hs⟩
  · rw [show ((j : Int) + 1 - 1).toNat = j by omega, hj] at hs
    cases hs
    have hfit := all_at hf (zip_at hx hr)
    simp only [fitB, Bool.and_eq_true] at hfit
    exact inB_mk (lvs_at hfit.2 hi)
  · rw [show ((j : Int) + 1 - 1).toNat = j by omega, hj] at hs
    cases hs
    decide
end
/-- Dimming never makes brighter. -/
theorem dim_le {x s : Int} (h0 : 0 ≤ x) (h1 : x ≤ 255) (s0 : 0 ≤ s) (s1 : s ≤ 1000) : 0 ≤ near (x * s) 1000 ∧ near (x * s) 1000 ≤ x := by
  have h2 := Int.mul_nonneg h0 s0
  have h3 := Int.mul_le_mul_of_nonneg_left s1 h0
  rw [near_pos h2]
  obtain ⟨z, hz⟩ : ∃ z, x * s = z := ⟨_, rfl⟩
  rw [hz] at h2 h3 ⊢
  omega
end Go.Proofs.Ytckenipmebeopaa
