/-
  The law of FadeLevels, walked.
-/
import Derived.Test.YthghcpgeddepnaaFadeLevels
import Derived.Test.YthghcpgeddepnaaIntsG
namespace Go.Proofs.Ythghcpgeddepnaa
open Go.RowKit

set_option maxRecDepth 20000 in
set_option maxHeartbeats 4000000 in
theorem lawFadeLevels (A0 : Option Addr) (n0 c0 : Nat) (zs0 : List Int) (A1 : Option Addr) (n1 c1 : Nat) (zs1 : List Int) (a2 : Int) (w : World) (h0 : IsRow .i64 w A0 n0 c0 zs0) (h1 : IsRow .i64 w A1 n1 c1 zs1) (_wf2 : (Lit.int .i64 a2).wf = true) :
    Calls Try.prog 6 #[.slice A0 n0 c0, .slice A1 n1 c1, .int .i64 a2] w fun e w' => e = .returned (.bool true) ∧ Below w.heap.size w w' := by
  obtain ⟨hm0, hn0, hr0⟩ := rd_of_isRow h0
  obtain ⟨L0, hL0⟩ : ∃ L, L = zs0.take n0 := ⟨_, rfl⟩
  rw [← hL0] at hn0 hr0
  clear h0 hL0
  unfold maxLen at hm0
  have Hn0 := Lib.hid hn0
  have HR0 := Lib.hid hr0
  clear hn0 hr0
  obtain ⟨hm1, hn1, hr1⟩ := rd_of_isRow h1
  obtain ⟨L1, hL1⟩ : ∃ L, L = zs1.take n1 := ⟨_, rfl⟩
  rw [← hL1] at hn1 hr1
  clear h1 hL1
  unfold maxLen at hm1
  have Hn1 := Lib.hid hn1
  have HR1 := Lib.hid hr1
  clear hn1 hr1
  by_cases hbig0 : n0 ≤ 1048576
  case neg =>
    go_enter Try.func6, Try.ntmps6
    go_wp2
    go_ret
    exact ⟨rfl, (G.refl _)⟩
  by_cases hbig1 : n1 ≤ 1048576
  case neg =>
    go_enter Try.func6, Try.ntmps6
    go_wp2
    go_ret
    exact ⟨rfl, (G.refl _)⟩
  obtain ⟨R, HX⟩ : ∃ R, Hid (fadeR L0 L1 a2 = R) := ⟨_, rfl⟩
  go_enter Try.func6, Try.ntmps6
  have s0 : w.heap.size ≤ w.heap.size := Nat.le_refl _
  have hRb := fadeR_len L0 L1 a2
  rw [HX.out] at hRb
  go_wp2_with fail
  refine (toInt64S_any A0 n0 c0 L0 _ HR0.out Hn0.out (by omega)).mono ?_
  rintro e w1 ⟨b1, rfl, hb1, hl1, g1, o1⟩
  have s1 := g1.size
  have O1 := Lib.hid o1
  clear o1
  have G1 := Lib.hid (g1)
  clear g1
  go_wp2_with fail
  refine (toInt64S_any A1 n1 c1 L1 _ (HR1.out.G G1.out) Hn1.out (by omega)).mono ?_
  rintro e w2 ⟨b2, rfl, hb2, hl2, g2, o2⟩
  have O1 := Lib.hid (own_G O1.out g2)
  have s2 := g2.size
  have O2 := Lib.hid o2
  clear o2
  have G2 := Lib.hid (G1.out.trans g2)
  clear g2
  go_wp2_with fail
  refine (sFadeLevels_any _ n0 _ L0 _ n1 _ L1 a2 _ (rd_ints O1.out) Hn0.out (by omega) (rd_ints O2.out) Hn1.out (by omega)).mono ?_
  rintro e w3 ⟨A_3, c_3, rfl, g3, o3⟩
  have O1 := Lib.hid (own_G O1.out g3)
  have O2 := Lib.hid (own_G O2.out g3)
  have s3 := g3.size
  have O3 := Lib.hid o3
  clear o3
  have G3 := Lib.hid (G2.out.trans g3)
  clear g3
  rw [HX.out] at O3 ⊢
  have B3 := Lib.hid (own_bd O3.out)
  go_wp2_with fail
  refine (toInt64S_any A0 n0 c0 L0 _ (HR0.out.G G3.out) Hn0.out (by omega)).mono ?_
  rintro e w4 ⟨b4, rfl, hb4, hl4, g4, o4⟩
  have O3 := Lib.hid (own_G O3.out g4)
  have s4 := g4.size
  have O4 := Lib.hid o4
  clear o4
  have G4 := Lib.hid (G3.out.trans g4)
  clear g4
  have B4 := Lib.hid (own_bd O4.out)
  go_wp2_with fail
  refine (toInt64S_any A1 n1 c1 L1 _ (HR1.out.G G4.out) Hn1.out (by omega)).mono ?_
  rintro e w5 ⟨b5, rfl, hb5, hl5, g5, o5⟩
  have O3 := Lib.hid (own_G O3.out g5)
  have O4 := Lib.hid (own_G O4.out g5)
  have s5 := g5.size
  have O5 := Lib.hid o5
  clear o5
  have G5 := Lib.hid (G4.out.trans g5)
  clear g5
  have B5 := Lib.hid (own_bd O5.out)
  go_wp2_with fail
  refine (iFadeLevels_any _ n0 _ L0 _ n1 _ L1 a2 _ (rd_ints O4.out) Hn0.out (by omega) (rd_ints O5.out) Hn1.out (by omega)).mono ?_
  rintro e w6 ⟨A_6, c_6, rfl, g6, o6⟩
  have O3 := Lib.hid (own_G O3.out g6)
  have O4 := Lib.hid (own_G O4.out g6)
  have O5 := Lib.hid (own_G O5.out g6)
  have s6 := g6.size
  have O6 := Lib.hid o6
  clear o6
  have G6 := Lib.hid (G5.out.trans g6)
  clear g6
  rw [HX.out] at O6 ⊢
  have B6 := Lib.hid (own_bd O6.out)
  go_wp2_with fail
  refine (eqInt64S_G _ _ R.1.length _ _ R.1 _ (rd_ints O6.out) (rd_ints O3.out) rfl (by omega)).mono ?_
  rintro e w7 ⟨rfl, g7⟩
  have O3 := Lib.hid (own_G O3.out g7)
  have O4 := Lib.hid (own_G O4.out g7)
  have O5 := Lib.hid (own_G O5.out g7)
  have O6 := Lib.hid (own_G O6.out g7)
  have s7 := g7.size
  have G7 := Lib.hid (G6.out.trans g7)
  clear g7
  go_wp2_with fail
  refine (toInt64S_any A0 n0 c0 L0 _ (HR0.out.G G7.out) Hn0.out (by omega)).mono ?_
  rintro e w8 ⟨b7, rfl, hb7, hl7, g8, o7⟩
  have O3 := Lib.hid (own_G O3.out g8)
  have O4 := Lib.hid (own_G O4.out g8)
  have O5 := Lib.hid (own_G O5.out g8)
  have O6 := Lib.hid (own_G O6.out g8)
  have s8 := g8.size
  have O7 := Lib.hid o7
  clear o7
  have G8 := Lib.hid (G7.out.trans g8)
  clear g8
  go_wp2_with fail
  refine (eqInt64S_G _ _ n0 _ _ L0 _ (rd_ints O4.out) (rd_ints O7.out) Hn0.out (by omega)).mono ?_
  rintro e w9 ⟨rfl, g9⟩
  have O3 := Lib.hid (own_G O3.out g9)
  have O4 := Lib.hid (own_G O4.out g9)
  have O5 := Lib.hid (own_G O5.out g9)
  have O6 := Lib.hid (own_G O6.out g9)
  have O7 := Lib.hid (own_G O7.out g9)
  have s9 := g9.size
  have G9 := Lib.hid (G8.out.trans g9)
  clear g9
  go_wp2_with fail
  refine (toInt64S_any A1 n1 c1 L1 _ (HR1.out.G G9.out) Hn1.out (by omega)).mono ?_
  rintro e w10 ⟨b8, rfl, hb8, hl8, g10, o8⟩
  have O3 := Lib.hid (own_G O3.out g10)
  have O4 := Lib.hid (own_G O4.out g10)
  have O5 := Lib.hid (own_G O5.out g10)
  have O6 := Lib.hid (own_G O6.out g10)
  have s10 := g10.size
  have O8 := Lib.hid o8
  clear o8
  have G10 := Lib.hid (G9.out.trans g10)
  clear g10
  go_wp2_with fail
  refine (eqInt64S_G _ _ n1 _ _ L1 _ (rd_ints O5.out) (rd_ints O8.out) Hn1.out (by omega)).mono ?_
  rintro e w11 ⟨rfl, g11⟩
  have O3 := Lib.hid (own_G O3.out g11)
  have O4 := Lib.hid (own_G O4.out g11)
  have O5 := Lib.hid (own_G O5.out g11)
  have O6 := Lib.hid (own_G O6.out g11)
  have O8 := Lib.hid (own_G O8.out g11)
  have s11 := g11.size
  have G11 := Lib.hid (G10.out.trans g11)
  clear g11
  go_wp2_with fail
  refine (markInt64S_any _ _ n0 _ _ 1 _ O4.out (by omega) (by omega) (by omega)).mono ?_
  rintro e w12 ⟨rfl, g12, o12⟩
  have O3 := Lib.hid (own_Gx O3.out g12 (own_ne (fun a b ha hb => by have h1 := B3.out a ha; have h2 := B4.out b hb; omega)))
  have O5 := Lib.hid (own_Gx O5.out g12 (own_ne (fun a b ha hb => by have h1 := B5.out a ha; have h2 := B4.out b hb; omega)))
  have O6 := Lib.hid (own_Gx O6.out g12 (own_ne (fun a b ha hb => by have h1 := B6.out a ha; have h2 := B4.out b hb; omega)))
  have s12 := World.grownBy.size g12
  have G12 := Lib.hid (Gx.G G11.out g12 (map_block (fun a ha => by have h1 := B4.out a ha; omega)))
  have O4 := Lib.hid o12
  clear g12 o12
  go_wp2_with fail
  refine (markInt64S_any _ _ n1 _ _ (1 + (n0 : Int)) _ O5.out (by omega) (by omega) (by omega)).mono ?_
  rintro e w13 ⟨rfl, g13, o13⟩
  have O3 := Lib.hid (own_Gx O3.out g13 (own_ne (fun a b ha hb => by have h1 := B3.out a ha; have h2 := B5.out b hb; omega)))
  have O6 := Lib.hid (own_Gx O6.out g13 (own_ne (fun a b ha hb => by have h1 := B6.out a ha; have h2 := B5.out b hb; omega)))
  have s13 := World.grownBy.size g13
  have G13 := Lib.hid (Gx.G G12.out g13 (map_block (fun a ha => by have h1 := B5.out a ha; omega)))
  have O5 := Lib.hid o13
  clear g13 o13
  go_wp2_with fail
  refine (eqInt64S_G _ _ R.1.length _ _ R.1 _ (rd_ints O6.out) (rd_ints O3.out) rfl (by omega)).mono ?_
  rintro e w14 ⟨rfl, g14⟩
  have O3 := Lib.hid (own_G O3.out g14)
  have O6 := Lib.hid (own_G O6.out g14)
  have s14 := g14.size
  have G14 := Lib.hid (G13.out.trans g14)
  clear g14
  go_wp2_with fail
  refine (markInt64S_any _ _ R.1.length _ _ 1 _ O6.out (by omega) (by omega) (by omega)).mono ?_
  rintro e w15 ⟨rfl, g15, o15⟩
  have O3 := Lib.hid (own_Gx O3.out g15 (own_ne (fun a b ha hb => by have h1 := B3.out a ha; have h2 := B6.out b hb; omega)))
  have s15 := World.grownBy.size g15
  have G15 := Lib.hid (Gx.G G14.out g15 (map_block (fun a ha => by have h1 := B6.out a ha; omega)))
  have O6 := Lib.hid o15
  clear g15 o15
  go_wp2_with fail
  refine (heldInt64S_anyG _ R.1.length _ 1 _ (rd_ints O6.out) (by omega) (by omega) (by omega)).mono ?_
  rintro e w16 ⟨rfl, g16⟩
  have O3 := Lib.hid (own_G O3.out g16)
  have O6 := Lib.hid (own_G O6.out g16)
  have s16 := g16.size
  have G16 := Lib.hid (G15.out.trans g16)
  clear g16
  go_wp2_with fail
  refine (toInt64S_any A0 n0 c0 L0 _ (HR0.out.G G16.out) Hn0.out (by omega)).mono ?_
  rintro e w17 ⟨b9, rfl, hb9, hl9, g17, o9⟩
  have O3 := Lib.hid (own_G O3.out g17)
  have O6 := Lib.hid (own_G O6.out g17)
  have s17 := g17.size
  have O9 := Lib.hid o9
  clear o9
  have G17 := Lib.hid (G16.out.trans g17)
  clear g17
  go_wp2_with fail
  refine (toInt64S_any A1 n1 c1 L1 _ (HR1.out.G G17.out) Hn1.out (by omega)).mono ?_
  rintro e w18 ⟨b10, rfl, hb10, hl10, g18, o10⟩
  have O3 := Lib.hid (own_G O3.out g18)
  have O6 := Lib.hid (own_G O6.out g18)
  have O9 := Lib.hid (own_G O9.out g18)
  have s18 := g18.size
  have O10 := Lib.hid o10
  clear o10
  have G18 := Lib.hid (G17.out.trans g18)
  clear g18
  go_wp2_with fail
  refine (iFadeLevels_any _ n0 _ L0 _ n1 _ L1 a2 _ (rd_ints O9.out) Hn0.out (by omega) (rd_ints O10.out) Hn1.out (by omega)).mono ?_
  rintro e w19 ⟨A_11, c_11, rfl, g19, o11⟩
  have O3 := Lib.hid (own_G O3.out g19)
  have O6 := Lib.hid (own_G O6.out g19)
  have O9 := Lib.hid (own_G O9.out g19)
  have O10 := Lib.hid (own_G O10.out g19)
  have s19 := g19.size
  have O11 := Lib.hid o11
  clear o11
  have G19 := Lib.hid (G18.out.trans g19)
  clear g19
  rw [HX.out] at O11 ⊢
  go_wp2_with fail
  refine (eqInt64S_G _ _ R.1.length _ _ R.1 _ (rd_ints O11.out) (rd_ints O3.out) rfl (by omega)).mono ?_
  rintro e w20 ⟨rfl, g20⟩
  have O3 := Lib.hid (own_G O3.out g20)
  have O6 := Lib.hid (own_G O6.out g20)
  have O9 := Lib.hid (own_G O9.out g20)
  have O10 := Lib.hid (own_G O10.out g20)
  have O11 := Lib.hid (own_G O11.out g20)
  have s20 := g20.size
  have G20 := Lib.hid (G19.out.trans g20)
  clear g20
  go_wp2_with fail
  refine (heldInt64S_anyG _ R.1.length _ 1 _ (rd_ints O6.out) (by omega) (by omega) (by omega)).mono ?_
  rintro e w21 ⟨rfl, g21⟩
  have O3 := Lib.hid (own_G O3.out g21)
  have O6 := Lib.hid (own_G O6.out g21)
  have O9 := Lib.hid (own_G O9.out g21)
  have O10 := Lib.hid (own_G O10.out g21)
  have O11 := Lib.hid (own_G O11.out g21)
  have s21 := g21.size
  have G21 := Lib.hid (G20.out.trans g21)
  clear g21
  go_wp2
  go_ret
  exact ⟨rfl, G21.out⟩
end Go.Proofs.Ythghcpgeddepnaa
