/-
  Walks: the greater and the lesser of two numbers.
-/
import Derived.Test.YtckenipmebeopaaDoorBase
namespace Go.Proofs.YtckenipmebeopaaDoor
open Go.RowKit

end Go.Proofs.YtckenipmebeopaaDoor
