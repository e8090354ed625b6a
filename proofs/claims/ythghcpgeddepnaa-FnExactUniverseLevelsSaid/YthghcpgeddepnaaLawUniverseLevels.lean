/-
  The law of UniverseLevels, walked.
-/
import Derived.Test.YthghcpgeddepnaaUni2
import Derived.Test.YthghcpgeddepnaaOpFixture
import Derived.Test.YthghcpgeddepnaaOpRows
import Derived.Test.YthghcpgeddepnaaRowsTo
import Derived.Test.YthghcpgeddepnaaIntsG
import Derived.Test.YthghcpgeddepnaaRes
namespace Go.Proofs.Ythghcpgeddepnaa
open Go.RowKit

set_option maxRecDepth 20000 in
set_option maxHeartbeats 4000000 in
theorem lawUniverseLevels (A0 : Option Addr) (n0 c0 : Nat) (L0 : List SFixture) (v1 : Value) (z1 : SRows) (a2 : Int) (w : World) (h0 : ArgFixture w A0 n0 c0 L0) (h1 : ArgSS w v1 z1) (_wf2 : (Lit.int .i64 a2).wf = true) :
    Calls Try.prog 12 #[.slice A0 n0 c0, v1, .int .i64 a2] w fun e w' => e = .returned (.bool true) ∧ Below w.heap.size w w' := by
  obtain ⟨hm0, hn0, hr0, hw0⟩ := h0
  have HW0 := Lib.hid hw0
  clear hw0
  unfold maxLen at hm0
  have Hn0 := Lib.hid hn0
  have HR0 := Lib.hid hr0
  clear hn0 hr0
  have t0 := tot_nonneg szFixture szFixture_nonneg L0
  obtain ⟨rfl, hm1, hn1, hr1, hw1⟩ := h1
  obtain ⟨A1, n1, c1, L1⟩ := z1
  simp only at hm1 hn1 hr1 hw1 ⊢
  have HW1 := Lib.hid hw1
  have HM1 := Lib.hid hm1
  unfold maxLen at hm1
  have Hn1 := Lib.hid hn1
  have HR1 := Lib.hid hr1
  have t1 := tot_nonneg szRow szRow_nonneg L1
  clear hn1 hr1 hw1
  by_cases q0 : (1048576 : Int) - n0 - tot szFixture L0 < 0
  case pos =>
    have HZ := Lib.hid (szR_neg q0)
    go_enter Try.func12, Try.ntmps12
    go_wp2_with fail
    refine (szFixtureS_any A0 n0 c0 L0 _ _ HR0.out Hn0.out HW0.out (by unfold maxLen; omega) (by omega) (by omega)).mono ?_
    rintro e w1 ⟨rfl, g1⟩
    have G1 := Lib.hid (g1)
    clear g1
    rw [HZ.out]
    go_wp2
    go_ret
    exact ⟨rfl, G1.out⟩
  have HZ0 := Lib.hid (szR_pos (y := (1048576 : Int) - n0 - tot szFixture L0) (by omega))
  by_cases q1 : (1048576 : Int) - n0 - tot szFixture L0 - n1 - tot szRow L1 < 0
  case pos =>
    have HZ := Lib.hid (szR_neg q1)
    go_enter Try.func12, Try.ntmps12
    go_wp2_with fail
    refine (szFixtureS_any A0 n0 c0 L0 _ _ HR0.out Hn0.out HW0.out (by unfold maxLen; omega) (by omega) (by omega)).mono ?_
    rintro e w1 ⟨rfl, g1⟩
    have G1 := Lib.hid (g1)
    clear g1
    rw [HZ0.out]
    go_wp2_with fail
    refine (szInt64SS_any A1 n1 c1 L1 _ _ (HR1.out.g G1.out) Hn1.out HW1.out HM1.out (by omega) (by omega)).mono ?_
    rintro e w2 ⟨rfl, g2⟩
    have G2 := Lib.hid (G1.out.trans g2)
    clear g2
    rw [HZ.out]
    go_wp2
    go_ret
    exact ⟨rfl, G2.out⟩
  have HZ1 := Lib.hid (szR_pos (y := (1048576 : Int) - n0 - tot szFixture L0 - n1 - tot szRow L1) (by omega))
  have HSUM1 := Lib.hid (show sumN (L1.map List.length) ≤ 1048576 by have h := tot_sumN L1; omega)
  have HROW1 := Lib.hid (show ∀ r ∈ L1, r.length ≤ 1048576 from fun r hr => Nat.le_trans (sumN_mem (List.mem_map_of_mem hr)) HSUM1.out)
  obtain ⟨R, HX⟩ : ∃ R, Hid (uniR L0 L1 a2 = R) := ⟨_, rfl⟩
  go_enter Try.func12, Try.ntmps12
  go_wp2_with fail
  refine (szFixtureS_any A0 n0 c0 L0 _ _ HR0.out Hn0.out HW0.out (by unfold maxLen; omega) (by omega) (by omega)).mono ?_
  rintro e w1 ⟨rfl, g1⟩
  have G1 := Lib.hid (g1)
  clear g1
  rw [HZ0.out]
  go_wp2_with fail
  refine (szInt64SS_any A1 n1 c1 L1 _ _ (HR1.out.g G1.out) Hn1.out HW1.out HM1.out (by omega) (by omega)).mono ?_
  rintro e w2 ⟨rfl, g2⟩
  have G2 := Lib.hid (G1.out.trans g2)
  clear g2
  rw [HZ1.out]
  have s0 := G2.out.size
  have hRb := uniR_len L0 L1 a2
  rw [HX.out] at hRb
  go_wp2_with fail
  refine (toFixtureS_any A0 n0 c0 L0 _ (HR0.out.G G2.out) Hn0.out (by omega)).mono ?_
  rintro e w3 ⟨b1, rfl, hb1, hl1, g3, o1⟩
  have s3 := g3.size
  have O1 := Lib.hid o1
  clear o1
  have G3 := Lib.hid (G2.out.trans g3)
  clear g3
  go_wp2_with fail
  refine (toInt64SS_any A1 n1 c1 L1 _ (HR1.out.g G3.out) Hn1.out (by omega) HROW1.out).mono ?_
  rintro e w4 ⟨q2, rfl, g4, hl2, o2⟩
  have O1 := Lib.hid (own_G O1.out g4)
  have s4 := g4.size
  have O2 := Lib.hid o2
  clear o2
  have G4 := Lib.hid (G3.out.trans g4)
  clear g4
  go_wp2_with fail
  refine (sUniverseLevels_any _ n0 _ L0 _ n1 _ L1 a2 _ (rd_own (by decide) cFixture_len O1.out) Hn0.out (by omega) (Nat.le_refl _) HW0.out O2.out.rd Hn1.out (by omega) HROW1.out).mono ?_
  rintro e w5 ⟨A_3, c_3, rfl, g5, o3⟩
  have O1 := Lib.hid (own_G O1.out g5)
  have O2 := Lib.hid (O2.out.g g5)
  have s5 := g5.size
  have O3 := Lib.hid o3
  clear o3
  have G5 := Lib.hid (G4.out.trans g5)
  clear g5
  rw [HX.out] at O3 ⊢
  have B3 := Lib.hid (own_bd O3.out)
  go_wp2_with fail
  refine (toFixtureS_any A0 n0 c0 L0 _ (HR0.out.G G5.out) Hn0.out (by omega)).mono ?_
  rintro e w6 ⟨b4, rfl, hb4, hl4, g6, o4⟩
  have O3 := Lib.hid (own_G O3.out g6)
  have s6 := g6.size
  have O4 := Lib.hid o4
  clear o4
  have G6 := Lib.hid (G5.out.trans g6)
  clear g6
  have B4 := Lib.hid (own_bd O4.out)
  go_wp2_with fail
  refine (toInt64SS_any A1 n1 c1 L1 _ (HR1.out.g G6.out) Hn1.out (by omega) HROW1.out).mono ?_
  rintro e w7 ⟨q5, rfl, g7, hl5, o5⟩
  have O3 := Lib.hid (own_G O3.out g7)
  have O4 := Lib.hid (own_G O4.out g7)
  have s7 := g7.size
  have O5 := Lib.hid o5
  clear o5
  have G7 := Lib.hid (G6.out.trans g7)
  clear g7
  have I5 := Lib.hid O5.out.inR
  go_wp2_with fail
  refine (iUniverseLevels_any _ n0 _ L0 _ n1 _ L1 a2 _ (rd_own (by decide) cFixture_len O4.out) Hn0.out (by omega) (Nat.le_refl _) HW0.out O5.out.rd Hn1.out (by omega) HROW1.out).mono ?_
  rintro e w8 ⟨A_6, c_6, rfl, g8, o6⟩
  have O3 := Lib.hid (own_G O3.out g8)
  have O4 := Lib.hid (own_G O4.out g8)
  have O5 := Lib.hid (O5.out.g g8)
  have s8 := g8.size
  have O6 := Lib.hid o6
  clear o6
  have G8 := Lib.hid (G7.out.trans g8)
  clear g8
  rw [HX.out] at O6 ⊢
  have B6 := Lib.hid (own_bd O6.out)
  go_wp2_with fail
  refine (eqInt64S_G _ _ R.1.length _ _ R.1 _ (rd_ints O6.out) (rd_ints O3.out) rfl (by omega)).mono ?_
  rintro e w9 ⟨rfl, g9⟩
  have O3 := Lib.hid (own_G O3.out g9)
  have O4 := Lib.hid (own_G O4.out g9)
  have O5 := Lib.hid (O5.out.g g9)
  have O6 := Lib.hid (own_G O6.out g9)
  have s9 := g9.size
  have G9 := Lib.hid (G8.out.trans g9)
  clear g9
  go_wp2_with fail
  refine (toFixtureS_any A0 n0 c0 L0 _ (HR0.out.G G9.out) Hn0.out (by omega)).mono ?_
  rintro e w10 ⟨b7, rfl, hb7, hl7, g10, o7⟩
  have O3 := Lib.hid (own_G O3.out g10)
  have O4 := Lib.hid (own_G O4.out g10)
  have O5 := Lib.hid (O5.out.g g10)
  have O6 := Lib.hid (own_G O6.out g10)
  have s10 := g10.size
  have O7 := Lib.hid o7
  clear o7
  have G10 := Lib.hid (G9.out.trans g10)
  clear g10
  go_wp2_with fail
  refine (eqFixtureS_same _ _ n0 _ _ L0 _ (rd_own (by decide) cFixture_len O4.out) (rd_own (by decide) cFixture_len O7.out) Hn0.out (by omega)).mono ?_
  rintro e w11 ⟨rfl, g11⟩
  have O3 := Lib.hid (own_G O3.out g11)
  have O4 := Lib.hid (own_G O4.out g11)
  have O5 := Lib.hid (O5.out.g g11)
  have O6 := Lib.hid (own_G O6.out g11)
  have O7 := Lib.hid (own_G O7.out g11)
  have s11 := g11.size
  have G11 := Lib.hid (G10.out.trans g11)
  clear g11
  go_wp2_with fail
  refine (toInt64SS_any A1 n1 c1 L1 _ (HR1.out.g G11.out) Hn1.out (by omega) HROW1.out).mono ?_
  rintro e w12 ⟨q8, rfl, g12, hl8, o8⟩
  have O3 := Lib.hid (own_G O3.out g12)
  have O4 := Lib.hid (own_G O4.out g12)
  have O5 := Lib.hid (O5.out.g g12)
  have O6 := Lib.hid (own_G O6.out g12)
  have s12 := g12.size
  have O8 := Lib.hid o8
  clear o8
  have G12 := Lib.hid (G11.out.trans g12)
  clear g12
  go_wp2_with fail
  refine (eqInt64SS_same _ _ n1 _ _ L1 _ O5.out.rd O8.out.rd Hn1.out (by omega) (fun r hr => Nat.le_trans (HROW1.out r hr) (by decide))).mono ?_
  rintro e w13 ⟨rfl, g13⟩
  have O3 := Lib.hid (own_G O3.out g13)
  have O4 := Lib.hid (own_G O4.out g13)
  have O5 := Lib.hid (O5.out.g g13)
  have O6 := Lib.hid (own_G O6.out g13)
  have O8 := Lib.hid (O8.out.g g13)
  have s13 := g13.size
  have G13 := Lib.hid (G12.out.trans g13)
  clear g13
  go_wp2_with fail
  refine (markFixtureS_any _ _ n0 _ _ 1 _ O4.out (by omega) (by omega) (by omega)).mono ?_
  rintro e w14 ⟨rfl, g14, o14⟩
  have O3 := Lib.hid (own_Gx O3.out g14 (own_ne (fun a b ha hb => by have h1 := B3.out a ha; have h2 := B4.out b hb; omega)))
  have O5 := Lib.hid (O5.out.gx g14 I5.out (fun k e => by obtain ⟨a, ha, hk⟩ := map_bk e; have h1 := B4.out a ha; omega))
  have O6 := Lib.hid (own_Gx O6.out g14 (own_ne (fun a b ha hb => by have h1 := B6.out a ha; have h2 := B4.out b hb; omega)))
  have s14 := World.grownBy.size g14
  have G14 := Lib.hid (Gx.G G13.out g14 (map_block (fun a ha => by have h1 := B4.out a ha; omega)))
  have O4 := Lib.hid o14
  clear g14 o14
  go_wp2_with fail
  refine (markInt64SS_any w6.heap.size w7.heap.size _ n1 _ _ L1 (1 + 4 * (n0 : Int)) _ O5.out Hn1.out I5.out (by omega) (by omega) (Nat.le_trans HSUM1.out (by decide)) (by omega)).mono ?_
  rintro e w15 ⟨rfl, g15, o15⟩
  have O3 := Lib.hid (own_Gi O3.out g15 (fun k e => by obtain ⟨a, ha, hk⟩ := own_bk e; have h1 := B3.out a ha; omega))
  have O6 := Lib.hid (own_Gi O6.out g15 (fun k e => by obtain ⟨a, ha, hk⟩ := own_bk e; have h1 := B6.out a ha; omega))
  have s15 := g15.size
  have G15 := Lib.hid (Gi.g G14.out g15 (by omega))
  have O5 := Lib.hid o15
  clear g15 o15
  go_wp2_with fail
  refine (eqInt64S_G _ _ R.1.length _ _ R.1 _ (rd_ints O6.out) (rd_ints O3.out) rfl (by omega)).mono ?_
  rintro e w16 ⟨rfl, g16⟩
  have O3 := Lib.hid (own_G O3.out g16)
  have O6 := Lib.hid (own_G O6.out g16)
  have s16 := g16.size
  have G16 := Lib.hid (G15.out.trans g16)
  clear g16
  go_wp2_with fail
  refine (markInt64S_any _ _ R.1.length _ _ 1 _ O6.out (by omega) (by omega) (by omega)).mono ?_
  rintro e w17 ⟨rfl, g17, o17⟩
  have O3 := Lib.hid (own_Gx O3.out g17 (own_ne (fun a b ha hb => by have h1 := B3.out a ha; have h2 := B6.out b hb; omega)))
  have s17 := World.grownBy.size g17
  have G17 := Lib.hid (Gx.G G16.out g17 (map_block (fun a ha => by have h1 := B6.out a ha; omega)))
  have O6 := Lib.hid o17
  clear g17 o17
  go_wp2_with fail
  refine (heldInt64S_anyG _ R.1.length _ 1 _ (rd_ints O6.out) (by omega) (by omega) (by omega)).mono ?_
  rintro e w18 ⟨rfl, g18⟩
  have O3 := Lib.hid (own_G O3.out g18)
  have O6 := Lib.hid (own_G O6.out g18)
  have s18 := g18.size
  have G18 := Lib.hid (G17.out.trans g18)
  clear g18
  go_wp2_with fail
  refine (toFixtureS_any A0 n0 c0 L0 _ (HR0.out.G G18.out) Hn0.out (by omega)).mono ?_
  rintro e w19 ⟨b9, rfl, hb9, hl9, g19, o9⟩
  have O3 := Lib.hid (own_G O3.out g19)
  have O6 := Lib.hid (own_G O6.out g19)
  have s19 := g19.size
  have O9 := Lib.hid o9
  clear o9
  have G19 := Lib.hid (G18.out.trans g19)
  clear g19
  go_wp2_with fail
  refine (toInt64SS_any A1 n1 c1 L1 _ (HR1.out.g G19.out) Hn1.out (by omega) HROW1.out).mono ?_
  rintro e w20 ⟨q10, rfl, g20, hl10, o10⟩
  have O3 := Lib.hid (own_G O3.out g20)
  have O6 := Lib.hid (own_G O6.out g20)
  have O9 := Lib.hid (own_G O9.out g20)
  have s20 := g20.size
  have O10 := Lib.hid o10
  clear o10
  have G20 := Lib.hid (G19.out.trans g20)
  clear g20
  go_wp2_with fail
  refine (iUniverseLevels_any _ n0 _ L0 _ n1 _ L1 a2 _ (rd_own (by decide) cFixture_len O9.out) Hn0.out (by omega) (Nat.le_refl _) HW0.out O10.out.rd Hn1.out (by omega) HROW1.out).mono ?_
  rintro e w21 ⟨A_11, c_11, rfl, g21, o11⟩
  have O3 := Lib.hid (own_G O3.out g21)
  have O6 := Lib.hid (own_G O6.out g21)
  have O9 := Lib.hid (own_G O9.out g21)
  have O10 := Lib.hid (O10.out.g g21)
  have s21 := g21.size
  have O11 := Lib.hid o11
  clear o11
  have G21 := Lib.hid (G20.out.trans g21)
  clear g21
  rw [HX.out] at O11 ⊢
  go_wp2_with fail
  refine (eqInt64S_G _ _ R.1.length _ _ R.1 _ (rd_ints O11.out) (rd_ints O3.out) rfl (by omega)).mono ?_
  rintro e w22 ⟨rfl, g22⟩
  have O3 := Lib.hid (own_G O3.out g22)
  have O6 := Lib.hid (own_G O6.out g22)
  have O9 := Lib.hid (own_G O9.out g22)
  have O10 := Lib.hid (O10.out.g g22)
  have O11 := Lib.hid (own_G O11.out g22)
  have s22 := g22.size
  have G22 := Lib.hid (G21.out.trans g22)
  clear g22
  go_wp2_with fail
  refine (heldInt64S_anyG _ R.1.length _ 1 _ (rd_ints O6.out) (by omega) (by omega) (by omega)).mono ?_
  rintro e w23 ⟨rfl, g23⟩
  have O3 := Lib.hid (own_G O3.out g23)
  have O6 := Lib.hid (own_G O6.out g23)
  have O9 := Lib.hid (own_G O9.out g23)
  have O10 := Lib.hid (O10.out.g g23)
  have O11 := Lib.hid (own_G O11.out g23)
  have s23 := g23.size
  have G23 := Lib.hid (G22.out.trans g23)
  clear g23
  go_wp2
  go_ret
  exact ⟨rfl, G23.out⟩
end Go.Proofs.Ythghcpgeddepnaa
