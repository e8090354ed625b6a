/-
  Walks: slices.Clone at Hold.
-/
import Derived.Test.YtcoaldhmofdfgaaDoorStHold
import Derived.Test.YtcoaldhmofdfgaaDoorSlc
namespace Go.Proofs.YtcoaldhmofdfgaaDoor
open Go.RowKit

theorem cHold_one (x : SHold) : ∀ u ∈ cHold x, u.oneCell' = true := by
  intro u hu
  simp only [cHold, List.mem_cons, List.not_mem_nil, or_false] at hu
  rcases hu with rfl | rfl <;> rfl

end Go.Proofs.YtcoaldhmofdfgaaDoor
