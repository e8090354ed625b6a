/-
  Walks: ShowOf, by the specification's text.
-/
import Derived.Test.YtcoaldhmofdfgaaDoorShowI
namespace Go.Proofs.YtcoaldhmofdfgaaDoor
open Go.RowKit

theorem ret_ibi {R : Int × Bool × Int} {a c : Int} {b : Bool} (h : R = (a, b, c)) : Ending.returned (.tuple #[.int .i64 a, .bool b, .int .i64 c]) = .returned (.tuple #[.int .i64 R.1, .bool R.2.1, .int .i64 R.2.2]) := by rw [h]

set_option maxHeartbeats 1000000 in
theorem iShowOf_any (A : Option Addr) (n c : Nat) (L : List SHold) (r : Int) (w : World) (hr : Rd w A 2 cHold L) (hn : L.length = n) (hb : n ≤ 4194304) :
    Calls Tryd.prog 27 #[.slice A n c, .int .i64 r] w fun e w' => e = .returned (.tuple #[.int .i64 (showR L r).1, .bool (showR L r).2.1, .int .i64 (showR L r).2.2]) ∧ G w w' := by
  have K := Lib.hid (iValidHolds_any A n c L w hr hn hb)
  have Hn := Lib.hid hn
  have HR := Lib.hid hr
  clear hr hn
  cases hv : vhs L
  · have H := Lib.hid (show showR L r = (0, false, 1) by unfold showR; rw [if_pos hv])
    rw [hv] at K
    go_enter Tryd.func27, Tryd.ntmps27
    go_wp2_with (go_at_call 33; refine K.out.mono ?_; rintro e w1 ⟨rfl, g1⟩)
    go_ret3
    exact ⟨ret_ibi H.out, by assumption⟩
  have HV := Lib.hid hv
  rw [hv] at K
  clear hv
  cases hu : inB r 0 40000000
  · have H := Lib.hid (show showR L r = (0, false, 2) by unfold showR; rw [if_neg (by rw [HV.out]; simp), if_pos hu])
    go_enter Tryd.func27, Tryd.ntmps27
    go_wp2_with (first | (go_at_call 33; refine K.out.mono ?_; rintro e w1 ⟨rfl, g1⟩) | (go_at_call 45; refine (within_any _ _ _ _).mono ?_; rintro e w' ⟨rfl, rfl⟩))
    go_ret3
    exact ⟨ret_ibi H.out, by assumption⟩
  · have H := Lib.hid (show showR L r = (showV L r, heldB L r (showV L r), 0) by unfold showR; rw [if_neg (by rw [HV.out]; simp), if_neg (by rw [hu]; simp)])
    have hub := inB_iff.1 hu
    go_enter Tryd.func27, Tryd.ntmps27
    go_wp2_with (first | (go_at_call 33; refine K.out.mono ?_; rintro e w1 ⟨rfl, g1⟩; have G1 := Lib.hid g1; clear g1) | (go_at_call 58; refine (showOf_any A n c L r _ (HR.out.G G1.out) Hn.out HV.out hub.1 hub.2).mono ?_; rintro e w2 ⟨rfl, g2⟩) | (go_at_call 45; refine (within_any _ _ _ _).mono ?_; rintro e w' ⟨rfl, rfl⟩))
    go_ret3
    exact ⟨ret_ibi H.out, G1.out.trans (by assumption)⟩

end Go.Proofs.YtcoaldhmofdfgaaDoor
