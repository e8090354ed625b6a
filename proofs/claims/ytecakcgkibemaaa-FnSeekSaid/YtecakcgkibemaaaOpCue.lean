/-
  Arguments of type Cue and []Cue opened.
-/
import Derived.Test.YtecakcgkibemaaaOpen
import Derived.Test.YtecakcgkibemaaaStCue
namespace Go.Proofs.Ytecakcgkibemaaa
open Go.ChangeShapes Go.WideShapes Go.ChangeAt Go.RowKit

def ArgCue (w : World) (A : Option Addr) (n _c : Nat) (L : List SCue) : Prop := n ≤ maxLen ∧ L.length = n ∧ Rd w A 6 cCue L ∧ ∀ x ∈ L, WfCue x
end Go.Proofs.Ytecakcgkibemaaa
