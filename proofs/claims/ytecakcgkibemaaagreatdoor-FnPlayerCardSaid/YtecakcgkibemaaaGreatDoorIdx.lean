/-
  The place of the first element as asked. No function in sight.
-/
import Derived.Test.YtecakcgkibemaaaGreatDoorMem
namespace Go.Proofs.YtecakcgkibemaaaGreatDoor
open Go.RowKit

section
variable {α : Type} {p : α → Bool} {L : List α} {k : Nat} {x : α}
/-- The place of the first element as asked, or -1. -/
def idxOf (p : α → Bool) (L : List α) : Int := match L.findIdx? p with
  | some k => k
  | none => -1
theorem idxOf_hit (hx : L[k]? = some x) (ha : (L.take k).all (fun y => !p y) = true) (hp : p x = true) : idxOf p L = k := by
  have : L.findIdx? p = some k := by
    rw [List.findIdx?_eq_some_iff_getElem]
    obtain ⟨hk, rfl⟩ := List.getElem?_eq_some_iff.1 hx
    refine ⟨hk, hp, fun j hj => ?_⟩
    have := List.all_eq_true.1 ha L[j] (List.mem_iff_getElem?.2 ⟨j, by rw [List.getElem?_take, if_pos hj]; exact List.getElem?_eq_getElem _⟩)
    simpa using this
  unfold idxOf; rw [this]
theorem idxOf_none (ha : L.all (fun y => !p y) = true) : idxOf p L = -1 := by
  have : L.findIdx? p = none := by
    rw [List.findIdx?_eq_none_iff]
    intro x hx
    have := List.all_eq_true.1 ha x hx
    simpa using this
  unfold idxOf; rw [this]
theorem idxOf_cases (p : α → Bool) (L : List α) : (idxOf p L = -1 ∧ L.any p = false) ∨ ∃ (k : Nat) (x : α), idxOf p L = k ∧ L[k]? = some x ∧ p x = true ∧ L.any p = true := by
  unfold idxOf
  cases h : L.findIdx? p with
  | none =>
    rw [List.findIdx?_eq_none_iff] at h
    left
    refine ⟨rfl, ?_⟩
    rw [List.any_eq_false]
    intro x hx
    simp [h x hx]
  | some k =>
    rw [List.findIdx?_eq_some_iff_getElem] at h
    obtain ⟨hk, hp, _⟩ := h
    right
    exact ⟨k, L[k], rfl, List.getElem?_eq_getElem hk, hp, List.any_eq_true.2 ⟨_, List.getElem_mem hk, hp⟩⟩
end

end Go.Proofs.YtecakcgkibemaaaGreatDoor
