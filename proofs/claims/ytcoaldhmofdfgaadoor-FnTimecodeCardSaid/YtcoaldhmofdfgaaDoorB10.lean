/-
  Walks: numbers that the laws choose by bytes.
-/
import Derived.Test.YtcoaldhmofdfgaaDoorSrc
namespace Go.Proofs.YtcoaldhmofdfgaaDoor
open Go.RowKit

theorem b10Long_no (A : Option Addr) (n c : Nat) (w : World) (h : n ≤ 1048576) :
    Calls Tryd.prog 16 #[.slice A n c] w fun e w' => e = .returned (.bool false) ∧ w = w' := by
  go_enter Tryd.func16, Tryd.ntmps16
  go_wp2
  go_ret
  exact ⟨ret_bool (by simp; omega), rfl⟩
end Go.Proofs.YtcoaldhmofdfgaaDoor
