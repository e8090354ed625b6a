/-
  Walks: a player of its own (the reference's).
-/
import Derived.Test.YtecakcgkibemaaaGreatDoorSwitch
namespace Go.Proofs.YtecakcgkibemaaaGreatDoor
open Go.RowKit

end Go.Proofs.YtecakcgkibemaaaGreatDoor
