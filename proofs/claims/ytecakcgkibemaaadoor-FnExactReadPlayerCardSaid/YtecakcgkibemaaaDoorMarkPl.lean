/-
  Walks: players marked, and held, by the law's own functions.
-/
import Derived.Test.YtecakcgkibemaaaDoorStPlayer
namespace Go.Proofs.YtecakcgkibemaaaDoor
open Go.RowKit

set_option maxHeartbeats 1000000 in
theorem markPlayer_any (base : Nat) (A : Option Addr) (n c : Nat) (t r : Int) (p : Bool) (xs : List Value) (k0 : Int) (w : World) (ho : w.ownsRow base 45 6 (.slice A n c) n xs) (hk0 : 0 ≤ k0) (hk1 : k0 ≤ 1000000) (hb : n ≤ 1048576) :
    Calls Tryd.prog 12 #[pV A n c t r p, .int .i64 k0] w (Marked w base 45 6 A n c (k0 + 6 * n) ((mksCue k0 n).flatMap cCue)) := by
  have B0 := Lib.hid ((G.refl w).alloc (.cells #[.slice A n c, .int .i64 t, .int .i64 r, .bool p] 29))
  have K := Lib.hid (markCueS_any base A n c xs k0 (w.alloc (.cells #[.slice A n c, .int .i64 t, .int .i64 r, .bool p] 29)) (own_G ho B0.out) hk0 hk1 hb)
  clear ho
  unfold pV
  go_enter Tryd.func12, Tryd.ntmps12
  go_wp2_with fail
  refine K.out.mono ?_
  rintro e w1 ⟨rfl, g1, o1⟩
  have G1 := Lib.hid (Gx.trans (Gx.of_G B0.out (A.map (·.block))) g1)
  have O1 := Lib.hid o1
  clear g1 o1 K B0
  dsimp only
  go_wp2
  go_ret
  exact ⟨rfl, G1.out, O1.out⟩

set_option maxHeartbeats 1000000 in
theorem heldPlayer_any (A : Option Addr) (n c : Nat) (t r : Int) (p : Bool) (k0 : Int) (w : World) (hr : Rd w A 6 cCue (mksCue k0 n)) (hk0 : 0 ≤ k0) (hk1 : k0 ≤ 1000000) (hb : n ≤ 1048576) :
    Calls Tryd.prog 13 #[pV A n c t r p, .int .i64 k0] w fun e w' => e = .returned (.int .i64 (k0 + 6 * n)) ∧ G w w' := by
  have B0 := Lib.hid ((G.refl w).alloc (.cells #[.slice A n c, .int .i64 t, .int .i64 r, .bool p] 29))
  have K := Lib.hid (heldCueS_any A n c k0 (w.alloc (.cells #[.slice A n c, .int .i64 t, .int .i64 r, .bool p] 29)) (hr.G B0.out) hk0 hk1 hb)
  clear hr
  unfold pV
  go_enter Tryd.func13, Tryd.ntmps13
  go_wp2_with fail
  refine K.out.mono ?_
  rintro e w1 ⟨rfl, g1⟩
  have G1 := Lib.hid (B0.out.trans g1)
  clear g1 K B0
  dsimp only
  go_wp2
  go_ret
  exact ⟨rfl, G1.out⟩
end Go.Proofs.YtecakcgkibemaaaDoor
