/-
  Plain law: a hold that is added delays what comes behind it.
-/
import Derived.Test.YtfdghdnnjhilgaaAddHold
namespace Go.Proofs.Ytfdghdnnjhilgaa
open Go.RowKit

theorem chk_intro {α : Type} {p : α → Bool} {r : α → α → Bool} {L : List α} (h1 : ∀ (i : Nat) (x : α), L[i]? = some x → p x = true) (h2 : ∀ (j : Nat) (x y : α), L[j + 1]? = some x → L[j]? = some y → r y x = true) : chk p r L = true := by
  unfold chk
  rw [List.all_eq_true]
  intro i _
  unfold okAt
  cases hx : L[i]? with
  | none => rfl
  | some x =>
    simp only [Bool.and_eq_true]
    refine ⟨h1 i x hx, ?_⟩
    cases i with
    | zero => rfl
    | succ j =>
      simp only
      cases hy : L[j]? with
      | none => rfl
      | some y => exact h2 j x y hx hy
theorem posH_le (L : List SHold) (s : Int) : posH L s ≤ L.length := List.findIdx_le_length
theorem posH_low {L : List SHold} {s : Int} {i : Nat} {x : SHold} (hi : i < posH L s) (hx : L[i]? = some x) : x.At < s := by
  obtain ⟨hl, rfl⟩ := List.getElem?_eq_some_iff.1 hx
  have h := List.not_of_lt_findIdx (p := fun x => !befH s x) (xs := L) hi
  simpa [befH] using h
theorem posH_high {L : List SHold} {s : Int} {x : SHold} (hx : L[posH L s]? = some x) : s ≤ x.At := by
  obtain ⟨hl, rfl⟩ := List.getElem?_eq_some_iff.1 hx
  have h := List.findIdx_getElem (p := fun x => !befH s x) (xs := L) (w := hl)
  have h2 : befH s (L[posH L s]) = false := (Bool.not_eq_true' _).mp h
  unfold befH at h2
  exact Int.not_lt.1 (of_decide_eq_false h2)
theorem addL_low {L : List SHold} {s len : Int} {i : Nat} (hi : i < posH L s) : (addL L s len)[i]? = L[i]? := by
  unfold addL
  have := posH_le L s
  rw [List.getElem?_append_left (by rw [List.length_take]; omega), List.getElem?_take, if_pos hi]
theorem addL_here {L : List SHold} {s len : Int} : (addL L s len)[posH L s]? = some ⟨s, len⟩ := by
  unfold addL
  have := posH_le L s
  rw [List.getElem?_append_right (by rw [List.length_take]; omega), List.length_take, Nat.min_eq_left this, Nat.sub_self]
  rfl
theorem addL_high {L : List SHold} {s len : Int} {i : Nat} (hi : posH L s ≤ i) : (addL L s len)[i + 1]? = L[i]? := by
  unfold addL
  have := posH_le L s
  rw [List.getElem?_append_right (by rw [List.length_take]; omega), List.length_take, Nat.min_eq_left this, show i + 1 - posH L s = (i - posH L s) + 1 by omega, List.getElem?_cons_succ, List.getElem?_drop, show posH L s + (i - posH L s) = i by omega]
theorem vhs_add {L : List SHold} {s len : Int} (hv : vhs L = true) (hl : L.length ≤ 15) (hs : 0 ≤ s ∧ s ≤ 7200000) (hlen : 1 ≤ len ∧ len ≤ 1800000) (hh : hitH L s = false) : vhs (addL L s len) = true := by
  have hr : ∀ x, L[posH L s]? = some x → s < x.At := fun x hx => by
    have h1 := posH_high hx
    unfold hitH at hh
    rw [hx] at hh
    have h2 : x.At ≠ s := by simpa using hh
    omega
  unfold vhs
  rw [Bool.and_eq_true, decide_eq_true_eq]
  refine ⟨by rw [addL_len]; omega, chk_intro (fun i x hx => ?_) (fun j x y hx hy => ?_)⟩
  · rcases Nat.lt_trichotomy i (posH L s) with h | h | h
    · rw [addL_low h] at hx
      have := vhs_at hv hx
      unfold vhB
      rw [Bool.and_eq_true]
      exact ⟨inB_mk ⟨this.1, this.2.1⟩, inB_mk this.2.2⟩
    · rw [h, addL_here] at hx
      cases hx
      unfold vhB
      rw [Bool.and_eq_true]
      exact ⟨inB_mk hs, inB_mk hlen⟩
    · obtain ⟨j, rfl⟩ : ∃ j, i = j + 1 := ⟨i - 1, by omega⟩
      rw [addL_high (by omega)] at hx
      have := vhs_at hv hx
      unfold vhB
      rw [Bool.and_eq_true]
      exact ⟨inB_mk ⟨this.1, this.2.1⟩, inB_mk this.2.2⟩
  · unfold ltH
    rw [decide_eq_true_eq]
    rcases Nat.lt_trichotomy (j + 1) (posH L s) with h | h | h
    · rw [addL_low h] at hx
      rw [addL_low (by omega)] at hy
      exact vhs_next hv hx hy
    · rw [h, addL_here] at hx
      cases hx
      rw [addL_low (s := s) (len := len) (by omega)] at hy
      exact posH_low (s := s) (by omega) hy
    · rw [addL_high (by omega)] at hx
      rcases Nat.lt_or_ge (posH L s) j with h2 | h2
      · obtain ⟨m, rfl⟩ : ∃ m, j = m + 1 := ⟨j - 1, by omega⟩
        rw [addL_high (by omega)] at hy
        exact vhs_next hv hx hy
      · have e : j = posH L s := by omega
        rw [e, addL_here] at hy
        cases hy
        rw [e] at hx
        exact hr x hx
theorem cntL_cons (x : SHold) (L : List SHold) (t : Int) : cntL (x :: L) t = (if x.At < t then x.Length else 0) + cntL L t := by simp [cntL]
theorem realL_add (L : List SHold) (s len t : Int) : realL (addL L s len) t = realL L t + (if s < t then len else 0) := by
  rw [realL_cnt, realL_cnt]
  unfold addL
  rw [cntL_append, cntL_cons]
  have h := cnt_split L (posH L s) t
  simp only
  omega
theorem showV_bd (L : List SHold) (r : Int) : 0 ≤ showV L r ∧ showV L r ≤ 7200000 := by
  unfold showV
  split
  · rename_i h
    have := Classical.choose_spec h
    exact ⟨this.1, this.2.1⟩
  · omega
/-- What the law asks, of the plain functions. -/
theorem holds_law {L : List SHold} {r len t : Int} (h : (addHR L r len).2 = 0) (ht : 0 ≤ t) (ht2 : t ≤ 7200000) :
    vhs L = true ∧ inB r 0 40000000 = true ∧ 0 ≤ showV L r ∧ showV L r ≤ 7200000 ∧ (addHR L r len).1 = addL L (showV L r) len ∧ (addHR L r len).1.length = L.length + 1 ∧ vhs (addHR L r len).1 = true ∧
    realR L t = (realL L t, 0) ∧ realR (addHR L r len).1 t = (realL L t + (if showV L r < t then len else 0), 0) ∧ 1 ≤ len ∧ len ≤ 1800000 := by
  unfold addHR at h ⊢
  by_cases h1 : vhs L = false
  · rw [if_pos h1] at h; simp at h
  rw [if_neg h1] at h ⊢
  by_cases h2 : inB len 1 1800000 = false
  · rw [if_pos h2] at h; simp at h
  rw [if_neg h2] at h ⊢
  by_cases h3 : inB r 0 40000000 = false
  · rw [if_pos h3] at h; simp at h
  rw [if_neg h3] at h ⊢
  by_cases h4 : hitH L (showV L r) = true
  · rw [if_pos h4] at h; simp at h
  rw [if_neg h4] at h ⊢
  by_cases h5 : L.length = 16
  · rw [if_pos h5] at h; simp at h
  rw [if_neg h5]
  have hv : vhs L = true := by simpa using h1
  have hrb : inB r 0 40000000 = true := by simpa using h3
  have hlb := inB_iff.1 (show inB len 1 1800000 = true by simpa using h2)
  have hl := vhs_len hv
  have hs := showV_bd L r
  have hva := vhs_add hv (by omega) hs hlb (by simpa using h4)
  refine ⟨hv, hrb, hs.1, hs.2, rfl, addL_len _ _ _, hva, ?_, ?_, hlb.1, hlb.2⟩
  · unfold realR
    rw [if_pos hv, if_pos (inB_mk ⟨ht, ht2⟩)]
  · unfold realR
    simp only
    rw [if_pos hva, if_pos (inB_mk ⟨ht, ht2⟩), realL_add]
end Go.Proofs.Ytfdghdnnjhilgaa
