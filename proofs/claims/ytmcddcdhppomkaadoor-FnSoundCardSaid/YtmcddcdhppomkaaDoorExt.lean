/-
  Walks: the greater and the lesser of two numbers.
-/
import Derived.Test.YtmcddcdhppomkaaDoorBase
namespace Go.Proofs.YtmcddcdhppomkaaDoor
open Go.RowKit

end Go.Proofs.YtmcddcdhppomkaaDoor
