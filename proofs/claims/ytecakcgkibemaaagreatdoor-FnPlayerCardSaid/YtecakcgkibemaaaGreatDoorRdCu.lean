/-
  Walks: a cue read from a text, by the reference.
-/
import Derived.Test.YtecakcgkibemaaaGreatDoorCuM
import Derived.Test.YtecakcgkibemaaaGreatDoorTxt
import Derived.Deep.RegionHeld3
import Derived.Deep.DrawnRows
namespace Go.Proofs.YtecakcgkibemaaaGreatDoor
open Go.RowKit

def rcuE (w : World) (R : SCue × Bool) (e : Ending) (w' : World) : Prop := e = .returned (.tuple #[.agg #[.string R.1.Id, .int .i64 R.1.Time, .int .i64 R.1.Length, .string R.1.Target, .int .i64 R.1.Action, .int .i64 R.1.Value], .bool R.2]) ∧ G w w'
theorem four_of {P : List ByteArray} (h : ¬ P.length < 4) : ∃ i t g a N, P = i :: t :: g :: a :: N := by
  rcases P with _ | ⟨a, _ | ⟨b, _ | ⟨c, _ | ⟨d, r⟩⟩⟩⟩
  · simp at h
  · simp at h
  · simp at h
  · simp at h
  · exact ⟨a, b, c, d, r, rfl⟩
theorem tail_step {P : List ByteArray} {j : Nat} {y : ByteArray} (hy : P[j]? = some y) (h4 : 4 ≤ j) : (P.take (j + 1)).drop 4 = (P.take j).drop 4 ++ [y] := by
  have hj : j < P.length := by
    rcases Nat.lt_or_ge j P.length with h | h
    · exact h
    · rw [List.getElem?_eq_none h] at hy; cases hy
  rw [List.take_add_one, hy, Option.toList_some, List.drop_append_of_le_length (by rw [List.length_take]; omega)]
theorem iv_at {L : List Int} {k : Nat} {x : Int} (h : L[k]? = some x) : (L.flatMap iv)[k]? = some (.int .i64 x) := by
  have e : L.flatMap iv = L.map (Value.int .i64) := by
    clear h
    induction L with
    | nil => rfl
    | cons y L ih => rw [List.flatMap_cons, ih]; rfl
  rw [e, List.getElem?_map, h]; rfl
theorem flat_svc (L : List ByteArray) : L.flatMap sv = L.map Value.string := by
  induction L with
  | nil => rfl
  | cons y L ih => rw [List.flatMap_cons, ih]; rfl
theorem iv_ones (x : Int) : ∀ u ∈ iv x, u.oneCell' = true := by
  intro u hu
  simp only [iv, List.mem_singleton] at hu
  subst hu
  rfl
theorem str_yes (l : List UInt8) : ((mkB l).toList == l) = true := by rw [ByteArray.toList_eq, mkB_data]; simp
theorem str_no {s : ByteArray} {l : List UInt8} (h : s ≠ mkB l) : (s.toList == l) = false := by
  simp only [beq_eq_false_iff_ne, ne_eq]
  intro e
  apply h
  rw [← e, ByteArray.toList_eq, mkB_of]

attribute [local go_sem ↓] Go.wp_at_zero Go.wp_at_succ
end Go.Proofs.YtecakcgkibemaaaGreatDoor
