/-
  Arguments of type Cue and []Cue opened.
-/
import Derived.Test.YtecakcgkibemaaaGreatDoorOpen
import Derived.Test.YtecakcgkibemaaaGreatDoorStCue
namespace Go.Proofs.YtecakcgkibemaaaGreatDoor
open Go.ChangeShapes Go.WideShapes Go.ChangeAt Go.RowKit

def ArgCue (w : World) (A : Option Addr) (n _c : Nat) (L : List SCue) : Prop := n ≤ maxLen ∧ L.length = n ∧ Rd w A 6 cCue L ∧ ∀ x ∈ L, WfCue x
end Go.Proofs.YtecakcgkibemaaaGreatDoor
