/-
  Cues compared with == and !=.
-/
import Derived.Test.YtecakcgkibemaaaGreatDoorStCue
import Derived.Laws.StructEq
namespace Go.Proofs.YtecakcgkibemaaaGreatDoor
open Go.RowKit

def sameC (x y : SCue) : Bool := x.Id.toList == y.Id.toList && (x.Time == y.Time && (x.Length == y.Length && (x.Target.toList == y.Target.toList && (x.Action == y.Action && x.Value == y.Value))))
theorem eqlCue (x y : SCue) (w : World) : (Op.equalIn 10000 49 (.agg #[.string x.Id, .int .i64 x.Time, .int .i64 x.Length, .string x.Target, .int .i64 x.Action, .int .i64 x.Value]) (.agg #[.string y.Id, .int .i64 y.Time, .int .i64 y.Length, .string y.Target, .int .i64 y.Action, .int .i64 y.Value])).run Tryz.prog w = .ok (sameC x y) w := by
  have hS : Tryz.prog.underlying 49 = some (.struct (Tryz.prog.fieldsOf 49)) := by kernel_rfl
  have hp : Tryz.prog.stoodInHeld 49 = false := by kernel_rfl
  have us := Tryz.underlying9
  have ui := Tryz.underlying2
  rw [show (10000 : Nat) = 9999 + 1 from rfl, run_equalIn_agg w 9999 49 _ _ hS hp]
  simp only [Program.fieldsOf, Tryz.underlying49]
  go_simp
  unfold sameC
  by_cases h1 : x.Id.toList = y.Id.toList <;> by_cases h2 : x.Time = y.Time <;> by_cases h3 : x.Length = y.Length <;> by_cases h4 : x.Target.toList = y.Target.toList <;> by_cases h5 : x.Action = y.Action <;> by_cases h6 : x.Value = y.Value <;> simp only [h1, h2, h3, h4, h5, h6, if_true, if_false, beq_self_eq_true, Bool.true_and] <;> simp [*]
theorem neqCue (x y : SCue) (w : World) : (binOp .neq 49 (.agg #[.string x.Id, .int .i64 x.Time, .int .i64 x.Length, .string x.Target, .int .i64 x.Action, .int .i64 x.Value]) (.agg #[.string y.Id, .int .i64 y.Time, .int .i64 y.Length, .string y.Target, .int .i64 y.Action, .int .i64 y.Value])).run Tryz.prog w = .ok (.bool (!sameC x y)) w := by
  rw [run_neq_struct, eqlCue]; rfl
/-- Slices of cues alike. -/
def sameL (L M : List SCue) : Bool := L.length == M.length && (List.range L.length).all fun i => match L[i]?, M[i]? with
  | some x, some y => sameC x y
  | _, _ => false
end Go.Proofs.YtecakcgkibemaaaGreatDoor
