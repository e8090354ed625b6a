/-
  Walks: the law's own functions on slices of integers: copied, compared, marked, held.
-/
import Derived.Test.YtmcddcdhppomkaaDoorBase
namespace Go.Proofs.YtmcddcdhppomkaaDoor
open Go.RowKit

theorem infoInt : (Tryd.prog.info? 2).map (fun i => (i.zero, i.size, i.bytes)) = some (some (.int .i64 0), 1, 8) := by kernel_rfl

/-- The numbers k, k + 1, .. -/
def upFrom (k : Int) (n : Nat) : List Int := (List.range n).map fun i => k + (i : Nat)
theorem upFrom_at (k : Int) (n i : Nat) (h : i < n) : (upFrom k n)[i]? = some (k + i) := by unfold upFrom; simp [h]
theorem upFrom_len (k : Int) (n : Nat) : (upFrom k n).length = n := by unfold upFrom; simp
theorem upFrom_succ (k : Int) (n : Nat) : upFrom k (n + 1) = upFrom k n ++ [k + n] := by unfold upFrom; simp [List.range_succ]

end Go.Proofs.YtmcddcdhppomkaaDoor
