/-
  The law of PatchAll, walked.
-/
import Derived.Test.YthghcpgeddepnaaPatch2
import Derived.Test.YthghcpgeddepnaaRowsTo
import Derived.Test.YthghcpgeddepnaaIntsG
namespace Go.Proofs.Ythghcpgeddepnaa
open Go.RowKit

set_option maxRecDepth 20000 in
set_option maxHeartbeats 4000000 in
theorem lawPatchAll (A0 : Option Addr) (n0 c0 : Nat) (zs0 : List Int) (w : World) (h0 : IsRow .i64 w A0 n0 c0 zs0) :
    Calls Try.prog 7 #[.slice A0 n0 c0] w fun e w' => e = .returned (.bool true) ∧ Below w.heap.size w w' := by
  obtain ⟨hm0, hn0, hr0⟩ := rd_of_isRow h0
  obtain ⟨L0, hL0⟩ : ∃ L, L = zs0.take n0 := ⟨_, rfl⟩
  rw [← hL0] at hn0 hr0
  clear h0 hL0
  unfold maxLen at hm0
  have Hn0 := Lib.hid hn0
  have HR0 := Lib.hid hr0
  clear hn0 hr0
  by_cases hbig0 : n0 ≤ 1048576
  case neg =>
    go_enter Try.func7, Try.ntmps7
    go_wp2
    go_ret
    exact ⟨rfl, (G.refl _)⟩
  obtain ⟨R, HX⟩ : ∃ R, Hid (patchR L0 = R) := ⟨_, rfl⟩
  go_enter Try.func7, Try.ntmps7
  have s0 : w.heap.size ≤ w.heap.size := Nat.le_refl _
  have hRb := patchR_len L0
  rw [HX.out] at hRb
  have hRrow := patchR_rows L0
  have hRsum := patchR_sum L0
  rw [HX.out] at hRrow hRsum
  go_wp2_with fail
  refine (toInt64S_any A0 n0 c0 L0 _ HR0.out Hn0.out (by omega)).mono ?_
  rintro e w1 ⟨b1, rfl, hb1, hl1, g1, o1⟩
  have s1 := g1.size
  have O1 := Lib.hid o1
  clear o1
  have G1 := Lib.hid (g1)
  clear g1
  go_wp2_with fail
  refine (sPatchAll_any _ n0 _ L0 _ (rd_ints O1.out) Hn0.out (by omega)).mono ?_
  rintro e w2 ⟨A_2, c_2, q2, rfl, g2, o2⟩
  have O1 := Lib.hid (own_G O1.out g2)
  have s2 := g2.size
  have O2 := Lib.hid o2
  clear o2
  have G2 := Lib.hid (G1.out.trans g2)
  clear g2
  rw [HX.out] at O2 ⊢
  have I2 := Lib.hid O2.out.inR
  go_wp2_with fail
  refine (toInt64S_any A0 n0 c0 L0 _ (HR0.out.G G2.out) Hn0.out (by omega)).mono ?_
  rintro e w3 ⟨b3, rfl, hb3, hl3, g3, o3⟩
  have O2 := Lib.hid (O2.out.g g3)
  have s3 := g3.size
  have O3 := Lib.hid o3
  clear o3
  have G3 := Lib.hid (G2.out.trans g3)
  clear g3
  have B3 := Lib.hid (own_bd O3.out)
  go_wp2_with fail
  refine (iPatchAll_any _ n0 _ L0 _ (rd_ints O3.out) Hn0.out (by omega)).mono ?_
  rintro e w4 ⟨A_4, c_4, q4, rfl, g4, o4⟩
  have O2 := Lib.hid (O2.out.g g4)
  have O3 := Lib.hid (own_G O3.out g4)
  have s4 := g4.size
  have O4 := Lib.hid o4
  clear o4
  have G4 := Lib.hid (G3.out.trans g4)
  clear g4
  rw [HX.out] at O4 ⊢
  have I4 := Lib.hid O4.out.inR
  go_wp2_with fail
  refine (eqInt64SS_same _ _ R.1.length _ _ R.1 _ O4.out.rd O2.out.rd rfl (by omega) hRrow).mono ?_
  rintro e w5 ⟨rfl, g5⟩
  have O2 := Lib.hid (O2.out.g g5)
  have O3 := Lib.hid (own_G O3.out g5)
  have O4 := Lib.hid (O4.out.g g5)
  have s5 := g5.size
  have G5 := Lib.hid (G4.out.trans g5)
  clear g5
  go_wp2_with fail
  refine (toInt64S_any A0 n0 c0 L0 _ (HR0.out.G G5.out) Hn0.out (by omega)).mono ?_
  rintro e w6 ⟨b5, rfl, hb5, hl5, g6, o5⟩
  have O2 := Lib.hid (O2.out.g g6)
  have O3 := Lib.hid (own_G O3.out g6)
  have O4 := Lib.hid (O4.out.g g6)
  have s6 := g6.size
  have O5 := Lib.hid o5
  clear o5
  have G6 := Lib.hid (G5.out.trans g6)
  clear g6
  go_wp2_with fail
  refine (eqInt64S_G _ _ n0 _ _ L0 _ (rd_ints O3.out) (rd_ints O5.out) Hn0.out (by omega)).mono ?_
  rintro e w7 ⟨rfl, g7⟩
  have O2 := Lib.hid (O2.out.g g7)
  have O3 := Lib.hid (own_G O3.out g7)
  have O4 := Lib.hid (O4.out.g g7)
  have O5 := Lib.hid (own_G O5.out g7)
  have s7 := g7.size
  have G7 := Lib.hid (G6.out.trans g7)
  clear g7
  go_wp2_with fail
  refine (markInt64S_any _ _ n0 _ _ 1 _ O3.out (by omega) (by omega) (by omega)).mono ?_
  rintro e w8 ⟨rfl, g8, o8⟩
  have O2 := Lib.hid (O2.out.gx g8 I2.out (fun k e => by obtain ⟨a, ha, hk⟩ := map_bk e; have h1 := B3.out a ha; omega))
  have O4 := Lib.hid (O4.out.gx g8 I4.out (fun k e => by obtain ⟨a, ha, hk⟩ := map_bk e; have h1 := B3.out a ha; omega))
  have s8 := World.grownBy.size g8
  have G8 := Lib.hid (Gx.G G7.out g8 (map_block (fun a ha => by have h1 := B3.out a ha; omega)))
  have O3 := Lib.hid o8
  clear g8 o8
  go_wp2_with fail
  refine (eqInt64SS_same _ _ R.1.length _ _ R.1 _ O4.out.rd O2.out.rd rfl (by omega) hRrow).mono ?_
  rintro e w9 ⟨rfl, g9⟩
  have O2 := Lib.hid (O2.out.g g9)
  have O4 := Lib.hid (O4.out.g g9)
  have s9 := g9.size
  have G9 := Lib.hid (G8.out.trans g9)
  clear g9
  go_wp2_with fail
  refine (markInt64SS_any w3.heap.size w4.heap.size _ R.1.length _ _ R.1 1 _ O4.out rfl I4.out (by omega) (by omega) hRsum (by omega)).mono ?_
  rintro e w10 ⟨rfl, g10, o10⟩
  have O2 := Lib.hid (O2.out.gi g10 I2.out (by omega))
  have s10 := g10.size
  have G10 := Lib.hid (Gi.g G9.out g10 (by omega))
  have O4 := Lib.hid o10
  clear g10 o10
  go_wp2_with fail
  refine (heldInt64SS_any _ R.1.length _ (R.1.map List.length) 1 _ O4.out.rd (by rw [List.length_map]) (by omega) (by omega) hRsum (by omega)).mono ?_
  rintro e w11 ⟨rfl, g11⟩
  have O2 := Lib.hid (O2.out.g g11)
  have O4 := Lib.hid (O4.out.g g11)
  have s11 := g11.size
  have G11 := Lib.hid (G10.out.trans g11)
  clear g11
  go_wp2_with fail
  refine (toInt64S_any A0 n0 c0 L0 _ (HR0.out.G G11.out) Hn0.out (by omega)).mono ?_
  rintro e w12 ⟨b6, rfl, hb6, hl6, g12, o6⟩
  have O2 := Lib.hid (O2.out.g g12)
  have O4 := Lib.hid (O4.out.g g12)
  have s12 := g12.size
  have O6 := Lib.hid o6
  clear o6
  have G12 := Lib.hid (G11.out.trans g12)
  clear g12
  go_wp2_with fail
  refine (iPatchAll_any _ n0 _ L0 _ (rd_ints O6.out) Hn0.out (by omega)).mono ?_
  rintro e w13 ⟨A_7, c_7, q7, rfl, g13, o7⟩
  have O2 := Lib.hid (O2.out.g g13)
  have O4 := Lib.hid (O4.out.g g13)
  have O6 := Lib.hid (own_G O6.out g13)
  have s13 := g13.size
  have O7 := Lib.hid o7
  clear o7
  have G13 := Lib.hid (G12.out.trans g13)
  clear g13
  rw [HX.out] at O7 ⊢
  go_wp2_with fail
  refine (eqInt64SS_same _ _ R.1.length _ _ R.1 _ O7.out.rd O2.out.rd rfl (by omega) hRrow).mono ?_
  rintro e w14 ⟨rfl, g14⟩
  have O2 := Lib.hid (O2.out.g g14)
  have O4 := Lib.hid (O4.out.g g14)
  have O6 := Lib.hid (own_G O6.out g14)
  have O7 := Lib.hid (O7.out.g g14)
  have s14 := g14.size
  have G14 := Lib.hid (G13.out.trans g14)
  clear g14
  go_wp2_with fail
  refine (heldInt64SS_any _ R.1.length _ (R.1.map List.length) 1 _ O4.out.rd (by rw [List.length_map]) (by omega) (by omega) hRsum (by omega)).mono ?_
  rintro e w15 ⟨rfl, g15⟩
  have O2 := Lib.hid (O2.out.g g15)
  have O4 := Lib.hid (O4.out.g g15)
  have O6 := Lib.hid (own_G O6.out g15)
  have O7 := Lib.hid (O7.out.g g15)
  have s15 := g15.size
  have G15 := Lib.hid (G14.out.trans g15)
  clear g15
  go_wp2
  go_ret
  exact ⟨rfl, G15.out⟩
end Go.Proofs.Ythghcpgeddepnaa
