/-
  Walks: slices.Insert at Hold, one element.
-/
import Derived.Test.YtcoaldhmofdfgaaDoorCloneHold
import Derived.Test.YtcoaldhmofdfgaaDoorIns
namespace Go.Proofs.YtcoaldhmofdfgaaDoor
open Go.RowKit

end Go.Proofs.YtcoaldhmofdfgaaDoor
