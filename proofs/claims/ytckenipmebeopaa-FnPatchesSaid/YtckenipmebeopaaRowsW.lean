/-
  Walks: the law's own functions on slices of slices of integers.
-/
import Derived.Test.YtckenipmebeopaaRowMem
import Derived.Test.YtckenipmebeopaaIntsG
import Derived.Test.YtckenipmebeopaaText
namespace Go.Proofs.Ytckenipmebeopaa
open Go.RowKit

theorem infoRow : (Try.prog.info? 28).map (fun i => (i.zero, i.size, i.bytes)) = some (some (.slice none 0 0), 1, 24) := by kernel_rfl

/-- A row's own size. -/
def szRow (r : List Int) : Int := r.length
theorem szRow_nonneg (r : List Int) : 0 ≤ szRow r := by unfold szRow; omega
theorem tot_sumN (M : List (List Int)) : tot szRow M = (sumN (M.map List.length) : Int) := by
  induction M with
  | nil => rfl
  | cons r M ih =>
    have h := tot_append szRow [r] M
    simp only [List.singleton_append] at h
    rw [h, ih]
    simp [tot, szRow, sumN]
end Go.Proofs.Ytckenipmebeopaa
