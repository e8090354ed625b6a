/-
  Walks: slices of slices of integers copied and measured by the law's own functions.
-/
import Derived.Test.YtckenipmebeopaaRowsW
namespace Go.Proofs.Ytckenipmebeopaa
open Go.RowKit

end Go.Proofs.Ytckenipmebeopaa
