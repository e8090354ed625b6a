/-
  The law of HoldsText, walked.
-/
import Derived.Test.YtcoaldhmofdfgaaDoorHtText
import Derived.Test.YtcoaldhmofdfgaaDoorOpHold
namespace Go.Proofs.YtcoaldhmofdfgaaDoor
open Go.RowKit

set_option maxRecDepth 20000 in
set_option maxHeartbeats 4000000 in
theorem lawHoldsText (A0 : Option Addr) (n0 c0 : Nat) (L0 : List SHold) (w : World) (htp : TabP w) (h0 : ArgHold w A0 n0 c0 L0) :
    Calls Tryd.prog 3 #[.slice A0 n0 c0] w fun e w' => e = .returned (.bool true) ∧ Below w.heap.size w w' := by
  have HTP := Lib.hid htp
  clear htp
  obtain ⟨hm0, hn0, hr0, hw0⟩ := h0
  have HW0 := Lib.hid hw0
  clear hw0
  unfold maxLen at hm0
  have Hn0 := Lib.hid hn0
  have HR0 := Lib.hid hr0
  clear hn0 hr0
  by_cases q0 : (1048576 : Int) - (n0 : Int) < 0
  case pos =>
    have HZ := Lib.hid (szR_neg q0)
    go_enter Tryd.func3, Tryd.ntmps3
    go_wp2_with fail
    refine (szHoldS_any A0 n0 c0 _ _ (by omega) (by omega) (by omega)).mono ?_
    rintro e w1 ⟨rfl, g1⟩
    have G1 := Lib.hid (g1)
    clear g1
    rw [HZ.out]
    go_wp2
    go_ret
    exact ⟨rfl, G1.out⟩
  have HZ0 := Lib.hid (szR_pos (y := (1048576 : Int) - (n0 : Int)) (by omega))
  obtain ⟨R, HX⟩ : ∃ R, Hid (htR L0 = R) := ⟨_, rfl⟩
  go_enter Tryd.func3, Tryd.ntmps3
  go_wp2_with fail
  refine (szHoldS_any A0 n0 c0 _ _ (by omega) (by omega) (by omega)).mono ?_
  rintro e w1 ⟨rfl, g1⟩
  have G1 := Lib.hid (g1)
  clear g1
  rw [HZ0.out]
  have s0 := G1.out.size
  go_wp2_with fail
  refine (toHoldS_any A0 n0 c0 L0 _ (HR0.out.G G1.out) Hn0.out (by omega)).mono ?_
  rintro e w2 ⟨b1, rfl, hb1, hl1, g2, o1⟩
  have s2 := g2.size
  have O1 := Lib.hid o1
  clear o1
  have G2 := Lib.hid (G1.out.trans g2)
  clear g2
  go_wp2_with fail
  refine (sHoldsText_any _ n0 _ L0 _ (rd_own (by decide) cHold_len O1.out) Hn0.out (by omega)).mono ?_
  rintro e w3 ⟨rfl, g3⟩
  have O1 := Lib.hid (own_G O1.out g3)
  have s3 := g3.size
  have G3 := Lib.hid (G2.out.trans g3)
  clear g3
  rw [HX.out]
  go_wp2_with fail
  refine (toHoldS_any A0 n0 c0 L0 _ (HR0.out.G G3.out) Hn0.out (by omega)).mono ?_
  rintro e w4 ⟨b2, rfl, hb2, hl2, g4, o2⟩
  have s4 := g4.size
  have O2 := Lib.hid o2
  clear o2
  have G4 := Lib.hid (G3.out.trans g4)
  clear g4
  go_wp2_with fail
  refine (iHoldsText_any _ n0 _ L0 _ (rd_own (by decide) cHold_len O2.out) Hn0.out (by omega) (HTP.out.G G4.out)).mono ?_
  rintro e w5 ⟨rfl, g5⟩
  have O2 := Lib.hid (own_G O2.out g5)
  have s5 := g5.size
  have G5 := Lib.hid (G4.out.trans g5)
  clear g5
  rw [HX.out]
  go_wp2_with fail
  refine (toHoldS_any A0 n0 c0 L0 _ (HR0.out.G G5.out) Hn0.out (by omega)).mono ?_
  rintro e w6 ⟨b3, rfl, hb3, hl3, g6, o3⟩
  have O2 := Lib.hid (own_G O2.out g6)
  have s6 := g6.size
  have O3 := Lib.hid o3
  clear o3
  have G6 := Lib.hid (G5.out.trans g6)
  clear g6
  go_wp2_with fail
  refine (eqHoldS_same _ _ n0 _ _ L0 _ (rd_own (by decide) cHold_len O2.out) (rd_own (by decide) cHold_len O3.out) Hn0.out (by omega)).mono ?_
  rintro e w7 ⟨rfl, g7⟩
  have O2 := Lib.hid (own_G O2.out g7)
  have O3 := Lib.hid (own_G O3.out g7)
  have s7 := g7.size
  have G7 := Lib.hid (G6.out.trans g7)
  clear g7
  go_wp2
  go_ret
  exact ⟨rfl, G7.out⟩
end Go.Proofs.YtcoaldhmofdfgaaDoor
