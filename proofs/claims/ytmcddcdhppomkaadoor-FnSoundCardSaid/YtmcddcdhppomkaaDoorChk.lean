/-
  Lists that are checked from left to right: each element by itself, and against the one before it.
-/
import Derived.Test.YtmcddcdhppomkaaDoorMem
namespace Go.Proofs.YtmcddcdhppomkaaDoor
open Go.RowKit

section
variable {α : Type} (p : α → Bool) (r : α → α → Bool)
def okAt (L : List α) (i : Nat) : Bool :=
  match L[i]? with
  | none => true
  | some x => p x && (match i with
    | 0 => true
    | j + 1 => match L[j]? with
      | none => true
      | some y => r y x)
def chk (L : List α) : Bool := (List.range L.length).all (okAt p r L)
variable {p r} {L : List α}
theorem chk_zero : (List.range 0).all (okAt p r L) = true := rfl
theorem chk_step {k : Nat} (h : (List.range k).all (okAt p r L) = true) (hk : okAt p r L k = true) : (List.range (k + 1)).all (okAt p r L) = true := by
  rw [List.range_succ, List.all_append, h]; simp [hk]
theorem chk_done {k : Nat} (h : (List.range k).all (okAt p r L) = true) (hk : k = L.length) : chk p r L = true := by unfold chk; rw [← hk]; exact h
theorem okAt_first {x : α} (h : L[0]? = some x) (hp : p x = true) : okAt p r L 0 = true := by unfold okAt; rw [h]; simp [hp]
theorem okAt_next {j : Nat} {x y : α} (h : L[j + 1]? = some x) (hy : L[j]? = some y) (hp : p x = true) (hr : r y x = true) : okAt p r L (j + 1) = true := by unfold okAt; rw [h]; simp [hp, hy, hr]
theorem chk_bad {k : Nat} {x : α} (h : L[k]? = some x) (hp : p x = false) : chk p r L = false := by
  unfold chk
  rw [List.all_eq_false]
  refine ⟨k, List.mem_range.2 (List.getElem?_eq_some_iff.1 h).1, ?_⟩
  unfold okAt; rw [h]; simp [hp]
theorem chk_bad_rel {j : Nat} {x y : α} (h : L[j + 1]? = some x) (hy : L[j]? = some y) (hr : r y x = false) : chk p r L = false := by
  unfold chk
  rw [List.all_eq_false]
  refine ⟨j + 1, List.mem_range.2 (List.getElem?_eq_some_iff.1 h).1, ?_⟩
  unfold okAt; rw [h]; simp [hy, hr]
theorem chk_all {k : Nat} {x : α} (h : chk p r L = true) (hx : L[k]? = some x) : p x = true := by
  have := List.all_eq_true.1 h k (List.mem_range.2 (List.getElem?_eq_some_iff.1 hx).1)
  unfold okAt at this
  rw [hx] at this
  simp only [Bool.and_eq_true] at this
  exact this.1
theorem chk_rel {j : Nat} {x y : α} (h : chk p r L = true) (hx : L[j + 1]? = some x) (hy : L[j]? = some y) : r y x = true := by
  have := List.all_eq_true.1 h (j + 1) (List.mem_range.2 (List.getElem?_eq_some_iff.1 hx).1)
  unfold okAt at this
  rw [hx] at this
  simp only [Bool.and_eq_true, hy] at this
  exact this.2
end

/-- One text is before another. -/
def ltS (a b : ByteArray) : Bool := Op.bytesLess a.toList b.toList
end Go.Proofs.YtmcddcdhppomkaaDoor
