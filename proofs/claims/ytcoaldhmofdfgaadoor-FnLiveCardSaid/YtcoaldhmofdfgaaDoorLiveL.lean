/-
  Plain law FnLive: what holds at the time of a show.
-/
import Derived.Test.YtcoaldhmofdfgaaDoorLiveM
namespace Go.Proofs.YtcoaldhmofdfgaaDoor
open Go.RowKit

theorem show_upto {L : List SHold} (hv : vhs L = true) {r : Int} (hr : 0 ≤ r) : ∀ n : Nat, ∃ t : Int, 0 ≤ t ∧ t ≤ n ∧ realL L t ≤ r ∧ (t < n → r < realL L (t + 1))
  | 0 => ⟨0, Int.le_refl _, Int.le_refl _, by
      rw [realL_cnt, cntL_none (fun x hx => (vhs_el hv hx).1.1)]
      omega, fun h => by omega⟩
  | n + 1 => by
    obtain ⟨t, h0, h1, h2, h3⟩ := show_upto hv hr n
    by_cases ht : t < n
    · exact ⟨t, h0, by omega, h2, fun _ => h3 ht⟩
    · by_cases hq : realL L (t + 1) ≤ r
      · exact ⟨t + 1, by omega, by omega, hq, fun h => by omega⟩
      · exact ⟨t, h0, by omega, h2, fun _ => by omega⟩
theorem show_is {L : List SHold} (hv : vhs L = true) {r : Int} (hr : 0 ≤ r) : IsShow L r (showV L r) := by
  obtain ⟨t, h0, h1, h2, h3⟩ := show_upto hv hr 7200000
  have h : IsShow L r t := ⟨h0, h1, h2, h3⟩
  rw [showV_eq hv h]
  exact h
theorem showR_bad {L : List SHold} {r : Int} (h : (showR L r).2.2 ≠ 0) : (showR L r).1 = 0 ∧ (showR L r).2.1 = false := by
  unfold showR at h ⊢
  split
  · exact ⟨rfl, rfl⟩
  · next h1 =>
    rw [if_neg h1] at h
    split
    · exact ⟨rfl, rfl⟩
    · next h2 => rw [if_neg h2] at h; exact absurd rfl h
/-- What the law asks, of the plain functions. -/
theorem live_law {L : List SHold} {r : Int} (h : (showR L r).2.2 = 0) : vhs L = true ∧ ∃ s X Y F : Int, ∃ b : Bool, showR L r = (s, b, 0) ∧ 0 ≤ s ∧ s ≤ 7200000 ∧ 0 ≤ r ∧ r ≤ 40000000 ∧ realR L s = (X, 0) ∧ lostR L s = (X - s, 0) ∧ 0 ≤ X ∧ X ≤ r ∧ (s < 7200000 → realR L (s + 1) = (Y, 0) ∧ r < Y) ∧ holdF L s = F ∧ 0 ≤ F ∧ F ≤ 1800000 ∧ b = decide (r < X + F) := by
  unfold showR at h
  split at h
  · cases h
  · next h1 =>
    split at h
    · cases h
    · next h2 =>
      have hv : vhs L = true := by simpa using h1
      have hr := inB_iff.1 (show inB r 0 40000000 = true by simpa using h2)
      obtain ⟨s0, s1, s2, s3⟩ := show_is hv hr.1
      have hb := realL_take hv L.length (showV L r)
      rw [List.take_length] at hb
      refine ⟨hv, showV L r, realL L (showV L r), realL L (showV L r + 1), holdF L (showV L r), heldB L r (showV L r), ?_, s0, s1, hr.1, hr.2, ?_, ?_, by omega, s2, fun hlt => ⟨?_, s3 hlt⟩, rfl, ?_, ?_, ?_⟩
      · unfold showR; rw [if_neg h1, if_neg h2]
      · unfold realR; rw [if_pos hv, if_pos (inB_mk ⟨s0, s1⟩)]
      · unfold lostR; rw [if_pos hv, if_pos (inB_mk ⟨s0, s1⟩)]
      · unfold realR; rw [if_pos hv, if_pos (inB_mk ⟨by omega, by omega⟩)]
      · have := (holdF_bd hv (showV L r) L.length).1; rwa [List.take_length] at this
      · have := (holdF_bd hv (showV L r) L.length).2; rwa [List.take_length] at this
      · have := held_hold hv (t := showV L r) s2 L.length
        rw [List.take_length] at this
        exact this
end Go.Proofs.YtcoaldhmofdfgaaDoor
