/-
  Walks: the law's own functions on Player.
-/
import Derived.Test.YtecakcgkibemaaaGreatDoorEnd
import Derived.Test.YtecakcgkibemaaaGreatDoorOpCue
import Derived.Test.YtecakcgkibemaaaGreatDoorIns
import Derived.Deep.Onto
namespace Go.Proofs.YtecakcgkibemaaaGreatDoor
open Go.RowKit
open Go.ChangeShapes Go.WideShapes Go.ChangeAt

/-- A player's value. -/
abbrev pV (A : Option Addr) (n c : Nat) (t r : Int) (p : Bool) : Value := .agg #[.slice A n c, .int .i64 t, .int .i64 r, .bool p]
theorem infoPlayer : (Tryz.prog.info? 25).map (fun i => (i.zero, i.size, i.bytes)) = some (some (.agg #[.slice none 0 0, .int .i64 0, .int .i64 0, .bool false]), 4, 48) := by kernel_rfl
theorem onePlayer (A : Option Addr) (n c : Nat) (t r : Int) (p : Bool) : (#[.slice A n c, .int .i64 t, .int .i64 r, .bool p] : Array Value).all (·.oneCell') = true := by simp [Value.oneCell']

end Go.Proofs.YtecakcgkibemaaaGreatDoor
