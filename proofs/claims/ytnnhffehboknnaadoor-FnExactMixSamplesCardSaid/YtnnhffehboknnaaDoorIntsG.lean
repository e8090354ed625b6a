/-
  Walks: the law's own held, in the form of what it leaves alone.
-/
import Derived.Test.YtnnhffehboknnaaDoorInts
namespace Go.Proofs.YtnnhffehboknnaaDoor
open Go.RowKit
theorem heldInt64S_anyG (A : Option Addr) (n c : Nat) (k0 : Int) (w : World) (hr : Rd w A 1 iv (upFrom k0 n)) (hk0 : 0 ≤ k0) (hk1 : k0 ≤ 1000000000000) (hb : n ≤ 4194304) :
    Calls Tryd.prog 26 #[.slice A n c, .int .i64 k0] w fun e w' => e = .returned (.int .i64 (k0 + n)) ∧ G w w' :=
  (heldInt64S_any A n c k0 w hr hk0 hk1 hb).mono fun _ _ ⟨he, m, hm⟩ => ⟨he, by rw [hm]; exact (G.refl w).drewN m⟩
end Go.Proofs.YtnnhffehboknnaaDoor
