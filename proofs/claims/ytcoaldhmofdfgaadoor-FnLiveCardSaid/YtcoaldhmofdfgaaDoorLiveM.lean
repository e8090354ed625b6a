/-
  Plain law of the time of a show at a real time. No program in sight.
-/
import Derived.Test.YtcoaldhmofdfgaaDoorShowMath
import Derived.Test.YtcoaldhmofdfgaaDoorHtM
namespace Go.Proofs.YtcoaldhmofdfgaaDoor
open Go.RowKit

/-- How long the show is held at a time. -/
def holdF (L : List SHold) (t : Int) : Int := L.foldl (fun a h => if h.At = t then h.Length else a) 0
theorem holdF_snoc {L : List SHold} {k : Nat} {x : SHold} (hx : L[k]? = some x) (t : Int) : holdF (L.take (k + 1)) t = if x.At = t then x.Length else holdF (L.take k) t := by
  unfold holdF
  rw [take_snoc hx, List.foldl_append]
  rfl
theorem holdF_bd {L : List SHold} (hv : vhs L = true) (t : Int) : ∀ k, 0 ≤ holdF (L.take k) t ∧ holdF (L.take k) t ≤ 1800000
  | 0 => by simp [holdF]
  | k + 1 => by
    have ih := holdF_bd hv t k
    by_cases hk : k < L.length
    · have hx := List.getElem?_eq_getElem hk
      have hb := vhs_el hv (List.mem_of_getElem? hx)
      rw [holdF_snoc hx]
      split <;> omega
    · rw [List.take_of_length_le (by omega)]
      rwa [List.take_of_length_le (by omega)] at ih
theorem held_hold {L : List SHold} (hv : vhs L = true) {r R t : Int} (hR : R ≤ r) : ∀ k, ((L.take k).any fun h => (h.At == t) && decide (r < R + h.Length)) = decide (r < R + holdF (L.take k) t)
  | 0 => by simp [holdF]; omega
  | k + 1 => by
    have ih := held_hold (L := L) hv (r := r) (R := R) (t := t) hR k
    by_cases hk : k < L.length
    · have hx := List.getElem?_eq_getElem hk
      rw [holdF_snoc hx, take_snoc hx, List.any_append]
      by_cases ht : (L[k]).At = t
      · rw [if_pos ht]
        have h0 : ((L.take k).any fun h => (h.At == t) && decide (r < R + h.Length)) = false := by
          rw [List.any_eq_false]
          intro y hy
          obtain ⟨i, hi, hyi⟩ := mem_take hy
          have := vhs_rises hv hyi hx hi
          simp only [Bool.and_eq_true, beq_iff_eq, not_and]
          intro e
          omega
        rw [h0]
        simp [ht]
      · rw [if_neg ht, ih]
        simp [ht]
    · rw [List.take_of_length_le (by omega)]
      rwa [List.take_of_length_le (by omega)] at ih
end Go.Proofs.YtcoaldhmofdfgaaDoor
