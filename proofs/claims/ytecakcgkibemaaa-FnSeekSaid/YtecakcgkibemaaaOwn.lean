/-
  Walks: a player of its own (the reference's).
-/
import Derived.Test.YtecakcgkibemaaaSwitch
namespace Go.Proofs.Ytecakcgkibemaaa
open Go.RowKit

end Go.Proofs.Ytecakcgkibemaaa
