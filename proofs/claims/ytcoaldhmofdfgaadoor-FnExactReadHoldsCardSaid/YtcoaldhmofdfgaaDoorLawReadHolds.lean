/-
  The law of ReadHolds, walked.
-/
import Derived.Test.YtcoaldhmofdfgaaDoorRdHt
import Derived.Test.YtcoaldhmofdfgaaDoorOpHold
namespace Go.Proofs.YtcoaldhmofdfgaaDoor
open Go.RowKit

set_option maxRecDepth 20000 in
set_option maxHeartbeats 4000000 in
theorem lawReadHolds (t0 : ByteArray) (w : World) (hE : Env w) (_h0 : t0.size ≤ maxLen) :
    Calls Tryd.prog 4 #[.string t0] w fun e w' => e = .returned (.bool true) ∧ Below w.heap.size w w' := by
  have HE := Lib.hid hE
  clear hE
  by_cases hbig0 : t0.size ≤ 1048576
  case neg =>
    go_enter Tryd.func4, Tryd.ntmps4
    go_wp2
    go_ret
    exact ⟨rfl, (G.refl _)⟩
  have hRb := rhR_len t0
  have KS := Lib.hid (fun (W : World) => sReadHolds_any t0 W hbig0)
  have KI := Lib.hid (fun (W : World) (g : G w W) => iReadHolds_any t0 W hbig0 (HE.out.G g))
  obtain ⟨R, HX⟩ : ∃ R, Hid (rhR t0 = R) := ⟨_, rfl⟩
  rw [HX.out] at KS KI hRb
  obtain ⟨RL, rb⟩ := R
  simp only at hRb
  clear HX
  cases rb
  · go_enter Tryd.func4, Tryd.ntmps4
    go_wp2_with fail
    refine (KS.out _).mono ?_
    rintro e w1 ⟨A1, c1, rfl, g1, o1⟩
    have s1 := g1.size
    have O1 := Lib.hid o1
    clear o1
    have G1 := Lib.hid g1
    clear g1
    have B1 := Lib.hid (own_bd O1.out)
    go_wp2_with fail
    refine (KI.out _ G1.out).mono ?_
    rintro e w2 ⟨A2, c2, rfl, g2, o2⟩
    replace O1 := Lib.hid (own_G O1.out g2)
    have s2 := g2.size
    have O2 := Lib.hid o2
    clear o2
    have G2 := Lib.hid (G1.out.trans g2)
    clear g2
    have B2 := Lib.hid (own_bd O2.out)
    go_wp2_with fail
    refine (eqHoldS_same _ _ RL.length _ _ RL _ (rd_own (by decide) cHold_len O2.out) (rd_own (by decide) cHold_len O1.out) rfl (by omega)).mono ?_
    rintro e w3 ⟨rfl, g3⟩
    replace O1 := Lib.hid (own_G O1.out g3)
    replace O2 := Lib.hid (own_G O2.out g3)
    have s3 := g3.size
    have G3 := Lib.hid (G2.out.trans g3)
    clear g3
    go_wp2_with fail
    refine (markHoldS_any _ _ RL.length _ _ 1 _ O2.out (by omega) (by omega) (by omega)).mono ?_
    rintro e w5 ⟨rfl, g5, o5⟩
    replace O1 := Lib.hid (own_Gx O1.out g5 (own_ne (fun a b ha hb => by have h1 := B1.out a ha; have h2 := B2.out b hb; omega)))
    have s5 := World.grownBy.size g5
    have G5 := Lib.hid (Gx.G G3.out g5 (map_block (fun a ha => by have h1 := B2.out a ha; omega)))
    replace O2 := Lib.hid o5
    clear g5 o5
    go_wp2_with fail
    refine (heldHoldS_any _ RL.length _ 1 _ (rd_own (by decide) cHold_len O2.out) (by omega) (by omega) (by omega)).mono ?_
    rintro e w6 ⟨rfl, g6⟩
    replace O1 := Lib.hid (own_G O1.out g6)
    replace O2 := Lib.hid (own_G O2.out g6)
    have s6 := g6.size
    have G6 := Lib.hid (G5.out.trans g6)
    clear g6
    go_wp2_with fail
    refine (KI.out _ G6.out).mono ?_
    rintro e w7 ⟨A3, c3, rfl, g7, o3⟩
    replace O1 := Lib.hid (own_G O1.out g7)
    replace O2 := Lib.hid (own_G O2.out g7)
    have s7 := g7.size
    have O3 := Lib.hid o3
    clear o3
    have G7 := Lib.hid (G6.out.trans g7)
    clear g7
    go_wp2_with fail
    refine (eqHoldS_same _ _ RL.length _ _ RL _ (rd_own (by decide) cHold_len O3.out) (rd_own (by decide) cHold_len O1.out) rfl (by omega)).mono ?_
    rintro e w8 ⟨rfl, g8⟩
    replace O1 := Lib.hid (own_G O1.out g8)
    replace O2 := Lib.hid (own_G O2.out g8)
    have G8 := Lib.hid (G7.out.trans g8)
    clear g8
    go_wp2_with fail
    refine (heldHoldS_any _ RL.length _ 1 _ (rd_own (by decide) cHold_len O2.out) (by omega) (by omega) (by omega)).mono ?_
    rintro e w9 ⟨rfl, g9⟩
    have G9 := Lib.hid (G8.out.trans g9)
    clear g9
    go_wp2
    go_ret
    exact ⟨rfl, G9.out⟩
  · go_enter Tryd.func4, Tryd.ntmps4
    go_wp2_with fail
    refine (KS.out _).mono ?_
    rintro e w1 ⟨A1, c1, rfl, g1, o1⟩
    have s1 := g1.size
    have O1 := Lib.hid o1
    clear o1
    have G1 := Lib.hid g1
    clear g1
    have B1 := Lib.hid (own_bd O1.out)
    go_wp2_with fail
    refine (KI.out _ G1.out).mono ?_
    rintro e w2 ⟨A2, c2, rfl, g2, o2⟩
    replace O1 := Lib.hid (own_G O1.out g2)
    have s2 := g2.size
    have O2 := Lib.hid o2
    clear o2
    have G2 := Lib.hid (G1.out.trans g2)
    clear g2
    have B2 := Lib.hid (own_bd O2.out)
    go_wp2_with fail
    refine (eqHoldS_same _ _ RL.length _ _ RL _ (rd_own (by decide) cHold_len O2.out) (rd_own (by decide) cHold_len O1.out) rfl (by omega)).mono ?_
    rintro e w3 ⟨rfl, g3⟩
    replace O1 := Lib.hid (own_G O1.out g3)
    replace O2 := Lib.hid (own_G O2.out g3)
    have s3 := g3.size
    have G3 := Lib.hid (G2.out.trans g3)
    clear g3
    go_wp2_with fail
    refine (markHoldS_any _ _ RL.length _ _ 1 _ O2.out (by omega) (by omega) (by omega)).mono ?_
    rintro e w5 ⟨rfl, g5, o5⟩
    replace O1 := Lib.hid (own_Gx O1.out g5 (own_ne (fun a b ha hb => by have h1 := B1.out a ha; have h2 := B2.out b hb; omega)))
    have s5 := World.grownBy.size g5
    have G5 := Lib.hid (Gx.G G3.out g5 (map_block (fun a ha => by have h1 := B2.out a ha; omega)))
    replace O2 := Lib.hid o5
    clear g5 o5
    go_wp2_with fail
    refine (heldHoldS_any _ RL.length _ 1 _ (rd_own (by decide) cHold_len O2.out) (by omega) (by omega) (by omega)).mono ?_
    rintro e w6 ⟨rfl, g6⟩
    replace O1 := Lib.hid (own_G O1.out g6)
    replace O2 := Lib.hid (own_G O2.out g6)
    have s6 := g6.size
    have G6 := Lib.hid (G5.out.trans g6)
    clear g6
    go_wp2_with fail
    refine (KI.out _ G6.out).mono ?_
    rintro e w7 ⟨A3, c3, rfl, g7, o3⟩
    replace O1 := Lib.hid (own_G O1.out g7)
    replace O2 := Lib.hid (own_G O2.out g7)
    have s7 := g7.size
    have O3 := Lib.hid o3
    clear o3
    have G7 := Lib.hid (G6.out.trans g7)
    clear g7
    go_wp2_with fail
    refine (eqHoldS_same _ _ RL.length _ _ RL _ (rd_own (by decide) cHold_len O3.out) (rd_own (by decide) cHold_len O1.out) rfl (by omega)).mono ?_
    rintro e w8 ⟨rfl, g8⟩
    replace O1 := Lib.hid (own_G O1.out g8)
    replace O2 := Lib.hid (own_G O2.out g8)
    have G8 := Lib.hid (G7.out.trans g8)
    clear g8
    go_wp2_with fail
    refine (heldHoldS_any _ RL.length _ 1 _ (rd_own (by decide) cHold_len O2.out) (by omega) (by omega) (by omega)).mono ?_
    rintro e w9 ⟨rfl, g9⟩
    have G9 := Lib.hid (G8.out.trans g9)
    clear g9
    go_wp2
    go_ret
    exact ⟨rfl, G9.out⟩
end Go.Proofs.YtcoaldhmofdfgaaDoor
