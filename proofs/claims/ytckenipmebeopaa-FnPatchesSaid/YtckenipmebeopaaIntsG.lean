/-
  Walks: the law's own held, in the form of what it leaves alone.
-/
import Derived.Test.YtckenipmebeopaaInts
namespace Go.Proofs.Ytckenipmebeopaa
open Go.RowKit
end Go.Proofs.Ytckenipmebeopaa
