/-
  Walks: the greater and the lesser of two numbers.
-/
import Derived.Test.YtcoaldhmofdfgaaDoorBase
namespace Go.Proofs.YtcoaldhmofdfgaaDoor
open Go.RowKit

end Go.Proofs.YtcoaldhmofdfgaaDoor
