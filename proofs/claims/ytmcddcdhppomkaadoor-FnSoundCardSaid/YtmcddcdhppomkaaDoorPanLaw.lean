/-
  Plain law (door seat S1D): the two sides of a pan: mirrored, within a whole, their squares nearly a whole. Every pan, by the kernel.
-/
import Derived.Test.YtmcddcdhppomkaaDoorPan
namespace Go.Proofs.YtmcddcdhppomkaaDoor

def panOk (k : Nat) : Bool :=
  let c := snA ((k : Int) * 45 + 90000)
  let s := snA ((k : Int) * 45)
  decide (snA (((2000 - k : Nat) : Int) * 45) = c) && decide (0 ≤ s) && decide (s ≤ 1000000) && decide (c * c + s * s - 1000000000000 < 1000000000) && decide (-1000000000 < c * c + s * s - 1000000000000)
theorem panOk_all : ((List.range 2001).all panOk) = true := by kernel_rfl
end Go.Proofs.YtmcddcdhppomkaaDoor
