/-
  The law of MixSamples, walked.
-/
import Derived.Test.YtnnhffehboknnaaDoorMix
import Derived.Test.YtnnhffehboknnaaDoorMix2
import Derived.Test.YtnnhffehboknnaaDoorOpChannel
import Derived.Test.YtnnhffehboknnaaDoorOpRows
import Derived.Test.YtnnhffehboknnaaDoorRowsToD
import Derived.Test.YtnnhffehboknnaaDoorIntsG
namespace Go.Proofs.YtnnhffehboknnaaDoor
open Go.RowKit

set_option maxRecDepth 20000 in
set_option maxHeartbeats 4000000 in
theorem lawMixSamples (A0 : Option Addr) (n0 c0 : Nat) (L0 : List SChannel) (v1 : Value) (z1 : SRows) (w : World) (ht : Tab w) (h0 : ArgChannel w A0 n0 c0 L0) (h1 : ArgSS w v1 z1) :
    Calls Tryd.prog 5 #[.slice A0 n0 c0, v1] w fun e w' => e = .returned (.bool true) ∧ Below w.heap.size w w' := by
  have HT := Lib.hid ht
  clear ht
  obtain ⟨hm0, hn0, hr0, hw0⟩ := h0
  have HW0 := Lib.hid hw0
  clear hw0
  unfold maxLen at hm0
  have Hn0 := Lib.hid hn0
  have HR0 := Lib.hid hr0
  clear hn0 hr0
  have t0 := tot_nonneg szChannel szChannel_nonneg L0
  obtain ⟨rfl, hm1, hn1, hr1, hw1⟩ := h1
  obtain ⟨A1, n1, c1, L1⟩ := z1
  simp only at hm1 hn1 hr1 hw1 ⊢
  have HW1 := Lib.hid hw1
  have HM1 := Lib.hid hm1
  unfold maxLen at hm1
  have Hn1 := Lib.hid hn1
  have HR1 := Lib.hid hr1
  have t1 := tot_nonneg szRow szRow_nonneg L1
  clear hn1 hr1 hw1
  by_cases q0 : (1048576 : Int) - n0 - tot szChannel L0 < 0
  case pos =>
    have HZ := Lib.hid (szR_neg q0)
    go_enter Tryd.func5, Tryd.ntmps5
    go_wp2_with fail
    refine (szChannelS_any A0 n0 c0 L0 _ _ HR0.out Hn0.out HW0.out (by unfold maxLen; omega) (by omega) (by omega)).mono ?_
    rintro e w1 ⟨rfl, g1⟩
    have G1 := Lib.hid (g1)
    clear g1
    rw [HZ.out]
    go_wp2
    go_ret
    exact ⟨rfl, G1.out⟩
  have HZ0 := Lib.hid (szR_pos (y := (1048576 : Int) - n0 - tot szChannel L0) (by omega))
  by_cases q1 : (1048576 : Int) - n0 - tot szChannel L0 - n1 - tot szRow L1 < 0
  case pos =>
    have HZ := Lib.hid (szR_neg q1)
    go_enter Tryd.func5, Tryd.ntmps5
    go_wp2_with fail
    refine (szChannelS_any A0 n0 c0 L0 _ _ HR0.out Hn0.out HW0.out (by unfold maxLen; omega) (by omega) (by omega)).mono ?_
    rintro e w1 ⟨rfl, g1⟩
    have G1 := Lib.hid (g1)
    clear g1
    rw [HZ0.out]
    go_wp2_with fail
    refine (szInt64SS_any A1 n1 c1 L1 _ _ (HR1.out.g G1.out) Hn1.out HW1.out HM1.out (by omega) (by omega)).mono ?_
    rintro e w2 ⟨rfl, g2⟩
    have G2 := Lib.hid (G1.out.trans g2)
    clear g2
    rw [HZ.out]
    go_wp2
    go_ret
    exact ⟨rfl, G2.out⟩
  have HZ1 := Lib.hid (szR_pos (y := (1048576 : Int) - n0 - tot szChannel L0 - n1 - tot szRow L1) (by omega))
  have HSUM1 := Lib.hid (show sumN (L1.map List.length) ≤ 1048576 by have h := tot_sumN L1; omega)
  have HROW1 := Lib.hid (show ∀ r ∈ L1, r.length ≤ 1048576 from fun r hr => Nat.le_trans (sumN_mem (List.mem_map_of_mem hr)) HSUM1.out)
  obtain ⟨R, HX⟩ : ∃ R, Hid (mixR L0 L1 = R) := ⟨_, rfl⟩
  go_enter Tryd.func5, Tryd.ntmps5
  go_wp2_with fail
  refine (szChannelS_any A0 n0 c0 L0 _ _ HR0.out Hn0.out HW0.out (by unfold maxLen; omega) (by omega) (by omega)).mono ?_
  rintro e w1 ⟨rfl, g1⟩
  have G1 := Lib.hid (g1)
  clear g1
  rw [HZ0.out]
  go_wp2_with fail
  refine (szInt64SS_any A1 n1 c1 L1 _ _ (HR1.out.g G1.out) Hn1.out HW1.out HM1.out (by omega) (by omega)).mono ?_
  rintro e w2 ⟨rfl, g2⟩
  have G2 := Lib.hid (G1.out.trans g2)
  clear g2
  rw [HZ1.out]
  have s0 := G2.out.size
  have hRb := (mixR_len L0 L1)
  rw [HX.out] at hRb
  go_wp2_with fail
  refine (toChannelS_any A0 n0 c0 L0 _ (HR0.out.G G2.out) Hn0.out (by omega)).mono ?_
  rintro e w3 ⟨b1, rfl, hb1, hl1, g3, o1⟩
  have s3 := g3.size
  have O1 := Lib.hid o1
  clear o1
  have G3 := Lib.hid (G2.out.trans g3)
  clear g3
  go_wp2_with fail
  refine (toInt64SS_any A1 n1 c1 L1 _ (HR1.out.g G3.out) Hn1.out (by omega) HROW1.out).mono ?_
  rintro e w4 ⟨q2, rfl, g4, hl2, o2⟩
  have O1 := Lib.hid (own_G O1.out g4)
  have s4 := g4.size
  have O2 := Lib.hid o2
  clear o2
  have G4 := Lib.hid (G3.out.trans g4)
  clear g4
  go_wp2_with fail
  refine (sMixSamples_any _ n0 _ L0 _ n1 _ L1 _ (rd_own (by decide) cChannel_len O1.out) Hn0.out (by omega) HW0.out O2.out.rd Hn1.out (by omega) HROW1.out).mono ?_
  rintro e w5 ⟨A_3, c_3, A_4, c_4, rfl, g5, ne3, o3, o4⟩
  have NE3 := Lib.hid ne3
  clear ne3
  have O1 := Lib.hid (own_G O1.out g5)
  have O2 := Lib.hid (O2.out.g g5)
  have s5 := g5.size
  have O3 := Lib.hid o3
  clear o3
  have O4 := Lib.hid o4
  clear o4
  have G5 := Lib.hid (G4.out.trans g5)
  clear g5
  rw [HX.out] at O3 O4 ⊢
  have B3 := Lib.hid (own_bd O3.out)
  have B4 := Lib.hid (own_bd O4.out)
  go_wp2_with fail
  refine (toChannelS_any A0 n0 c0 L0 _ (HR0.out.G G5.out) Hn0.out (by omega)).mono ?_
  rintro e w6 ⟨b5, rfl, hb5, hl5, g6, o5⟩
  have O3 := Lib.hid (own_G O3.out g6)
  have O4 := Lib.hid (own_G O4.out g6)
  have s6 := g6.size
  have O5 := Lib.hid o5
  clear o5
  have G6 := Lib.hid (G5.out.trans g6)
  clear g6
  have B5 := Lib.hid (own_bd O5.out)
  go_wp2_with fail
  refine (toInt64SS_any A1 n1 c1 L1 _ (HR1.out.g G6.out) Hn1.out (by omega) HROW1.out).mono ?_
  rintro e w7 ⟨q6, rfl, g7, hl6, o6⟩
  have O3 := Lib.hid (own_G O3.out g7)
  have O4 := Lib.hid (own_G O4.out g7)
  have O5 := Lib.hid (own_G O5.out g7)
  have s7 := g7.size
  have O6 := Lib.hid o6
  clear o6
  have G7 := Lib.hid (G6.out.trans g7)
  clear g7
  have I6 := Lib.hid O6.out.inR
  go_wp2_with fail
  refine (iMixSamples_any _ n0 _ L0 _ n1 _ L1 _ (HT.out.G G7.out) (rd_own (by decide) cChannel_len O5.out) Hn0.out (by omega) HW0.out O6.out.rd Hn1.out (by omega) HROW1.out).mono ?_
  rintro e w8 ⟨A_7, c_7, A_8, c_8, rfl, g8, ne7, o7, o8⟩
  have NE7 := Lib.hid ne7
  clear ne7
  have O3 := Lib.hid (own_G O3.out g8)
  have O4 := Lib.hid (own_G O4.out g8)
  have O5 := Lib.hid (own_G O5.out g8)
  have O6 := Lib.hid (O6.out.g g8)
  have s8 := g8.size
  have O7 := Lib.hid o7
  clear o7
  have O8 := Lib.hid o8
  clear o8
  have G8 := Lib.hid (G7.out.trans g8)
  clear g8
  rw [HX.out] at O7 O8 ⊢
  have B7 := Lib.hid (own_bd O7.out)
  have B8 := Lib.hid (own_bd O8.out)
  go_wp2_with fail
  refine (eqInt64S_G _ _ R.1.length _ _ R.1 _ (rd_ints O7.out) (rd_ints O3.out) rfl (by omega)).mono ?_
  rintro e w9 ⟨rfl, g9⟩
  have O3 := Lib.hid (own_G O3.out g9)
  have O4 := Lib.hid (own_G O4.out g9)
  have O5 := Lib.hid (own_G O5.out g9)
  have O6 := Lib.hid (O6.out.g g9)
  have O7 := Lib.hid (own_G O7.out g9)
  have O8 := Lib.hid (own_G O8.out g9)
  have s9 := g9.size
  have G9 := Lib.hid (G8.out.trans g9)
  clear g9
  go_wp2_with fail
  refine (eqInt64S_G _ _ R.2.1.length _ _ R.2.1 _ (rd_ints O8.out) (rd_ints O4.out) rfl (by omega)).mono ?_
  rintro e w10 ⟨rfl, g10⟩
  have O3 := Lib.hid (own_G O3.out g10)
  have O4 := Lib.hid (own_G O4.out g10)
  have O5 := Lib.hid (own_G O5.out g10)
  have O6 := Lib.hid (O6.out.g g10)
  have O7 := Lib.hid (own_G O7.out g10)
  have O8 := Lib.hid (own_G O8.out g10)
  have s10 := g10.size
  have G10 := Lib.hid (G9.out.trans g10)
  clear g10
  go_wp2_with fail
  refine (toChannelS_any A0 n0 c0 L0 _ (HR0.out.G G10.out) Hn0.out (by omega)).mono ?_
  rintro e w11 ⟨b9, rfl, hb9, hl9, g11, o9⟩
  have O3 := Lib.hid (own_G O3.out g11)
  have O4 := Lib.hid (own_G O4.out g11)
  have O5 := Lib.hid (own_G O5.out g11)
  have O6 := Lib.hid (O6.out.g g11)
  have O7 := Lib.hid (own_G O7.out g11)
  have O8 := Lib.hid (own_G O8.out g11)
  have s11 := g11.size
  have O9 := Lib.hid o9
  clear o9
  have G11 := Lib.hid (G10.out.trans g11)
  clear g11
  go_wp2_with fail
  refine (eqChannelS_same _ _ n0 _ _ L0 _ (rd_own (by decide) cChannel_len O5.out) (rd_own (by decide) cChannel_len O9.out) Hn0.out (by omega)).mono ?_
  rintro e w12 ⟨rfl, g12⟩
  have O3 := Lib.hid (own_G O3.out g12)
  have O4 := Lib.hid (own_G O4.out g12)
  have O5 := Lib.hid (own_G O5.out g12)
  have O6 := Lib.hid (O6.out.g g12)
  have O7 := Lib.hid (own_G O7.out g12)
  have O8 := Lib.hid (own_G O8.out g12)
  have O9 := Lib.hid (own_G O9.out g12)
  have s12 := g12.size
  have G12 := Lib.hid (G11.out.trans g12)
  clear g12
  go_wp2_with fail
  refine (toInt64SS_any A1 n1 c1 L1 _ (HR1.out.g G12.out) Hn1.out (by omega) HROW1.out).mono ?_
  rintro e w13 ⟨q10, rfl, g13, hl10, o10⟩
  have O3 := Lib.hid (own_G O3.out g13)
  have O4 := Lib.hid (own_G O4.out g13)
  have O5 := Lib.hid (own_G O5.out g13)
  have O6 := Lib.hid (O6.out.g g13)
  have O7 := Lib.hid (own_G O7.out g13)
  have O8 := Lib.hid (own_G O8.out g13)
  have s13 := g13.size
  have O10 := Lib.hid o10
  clear o10
  have G13 := Lib.hid (G12.out.trans g13)
  clear g13
  go_wp2_with fail
  refine (eqInt64SS_same _ _ n1 _ _ L1 _ O6.out.rd O10.out.rd Hn1.out (by omega) (fun r hr => Nat.le_trans (HROW1.out r hr) (by decide))).mono ?_
  rintro e w14 ⟨rfl, g14⟩
  have O3 := Lib.hid (own_G O3.out g14)
  have O4 := Lib.hid (own_G O4.out g14)
  have O5 := Lib.hid (own_G O5.out g14)
  have O6 := Lib.hid (O6.out.g g14)
  have O7 := Lib.hid (own_G O7.out g14)
  have O8 := Lib.hid (own_G O8.out g14)
  have O10 := Lib.hid (O10.out.g g14)
  have s14 := g14.size
  have G14 := Lib.hid (G13.out.trans g14)
  clear g14
  go_wp2_with fail
  refine (markChannelS_any _ _ n0 _ _ 1 _ O5.out (by omega) (by omega) (by omega)).mono ?_
  rintro e w15 ⟨rfl, g15, o15⟩
  have O3 := Lib.hid (own_Gx O3.out g15 (own_ne (fun a b ha hb => by have h1 := B3.out a ha; have h2 := B5.out b hb; omega)))
  have O4 := Lib.hid (own_Gx O4.out g15 (own_ne (fun a b ha hb => by have h1 := B4.out a ha; have h2 := B5.out b hb; omega)))
  have O6 := Lib.hid (O6.out.gx g15 I6.out (fun k e => by obtain ⟨a, ha, hk⟩ := map_bk e; have h1 := B5.out a ha; omega))
  have O7 := Lib.hid (own_Gx O7.out g15 (own_ne (fun a b ha hb => by have h1 := B7.out a ha; have h2 := B5.out b hb; omega)))
  have O8 := Lib.hid (own_Gx O8.out g15 (own_ne (fun a b ha hb => by have h1 := B8.out a ha; have h2 := B5.out b hb; omega)))
  have s15 := World.grownBy.size g15
  have G15 := Lib.hid (Gx.G G14.out g15 (map_block (fun a ha => by have h1 := B5.out a ha; omega)))
  have O5 := Lib.hid o15
  clear g15 o15
  go_wp2_with fail
  refine (markInt64SS_any w6.heap.size w7.heap.size _ n1 _ _ L1 (1 + 4 * (n0 : Int)) _ O6.out Hn1.out I6.out (by omega) (by omega) (Nat.le_trans HSUM1.out (by decide)) (by omega)).mono ?_
  rintro e w16 ⟨rfl, g16, o16⟩
  have O3 := Lib.hid (own_Gi O3.out g16 (fun k e => by obtain ⟨a, ha, hk⟩ := own_bk e; have h1 := B3.out a ha; omega))
  have O4 := Lib.hid (own_Gi O4.out g16 (fun k e => by obtain ⟨a, ha, hk⟩ := own_bk e; have h1 := B4.out a ha; omega))
  have O7 := Lib.hid (own_Gi O7.out g16 (fun k e => by obtain ⟨a, ha, hk⟩ := own_bk e; have h1 := B7.out a ha; omega))
  have O8 := Lib.hid (own_Gi O8.out g16 (fun k e => by obtain ⟨a, ha, hk⟩ := own_bk e; have h1 := B8.out a ha; omega))
  have s16 := g16.size
  have G16 := Lib.hid (Gi.g G15.out g16 (by omega))
  have O6 := Lib.hid o16
  clear g16 o16
  go_wp2_with fail
  refine (eqInt64S_G _ _ R.1.length _ _ R.1 _ (rd_ints O7.out) (rd_ints O3.out) rfl (by omega)).mono ?_
  rintro e w17 ⟨rfl, g17⟩
  have O3 := Lib.hid (own_G O3.out g17)
  have O4 := Lib.hid (own_G O4.out g17)
  have O7 := Lib.hid (own_G O7.out g17)
  have O8 := Lib.hid (own_G O8.out g17)
  have s17 := g17.size
  have G17 := Lib.hid (G16.out.trans g17)
  clear g17
  go_wp2_with fail
  refine (eqInt64S_G _ _ R.2.1.length _ _ R.2.1 _ (rd_ints O8.out) (rd_ints O4.out) rfl (by omega)).mono ?_
  rintro e w18 ⟨rfl, g18⟩
  have O3 := Lib.hid (own_G O3.out g18)
  have O4 := Lib.hid (own_G O4.out g18)
  have O7 := Lib.hid (own_G O7.out g18)
  have O8 := Lib.hid (own_G O8.out g18)
  have s18 := g18.size
  have G18 := Lib.hid (G17.out.trans g18)
  clear g18
  go_wp2_with fail
  refine (markInt64S_any _ _ R.1.length _ _ 1 _ O7.out (by omega) (by omega) (by omega)).mono ?_
  rintro e w19 ⟨rfl, g19, o19⟩
  have O3 := Lib.hid (own_Gx O3.out g19 (own_ne (fun a b ha hb => by have h1 := B3.out a ha; have h2 := B7.out b hb; omega)))
  have O4 := Lib.hid (own_Gx O4.out g19 (own_ne (fun a b ha hb => by have h1 := B4.out a ha; have h2 := B7.out b hb; omega)))
  have O8 := Lib.hid (own_Gx O8.out g19 (own_ne (fun a b ha hb => (fun e => NE7.out b a hb ha e.symm))))
  have s19 := World.grownBy.size g19
  have G19 := Lib.hid (Gx.G G18.out g19 (map_block (fun a ha => by have h1 := B7.out a ha; omega)))
  have O7 := Lib.hid o19
  clear g19 o19
  go_wp2_with fail
  refine (markInt64S_any _ _ R.2.1.length _ _ (1 + (R.1.length : Int)) _ O8.out (by omega) (by omega) (by omega)).mono ?_
  rintro e w20 ⟨rfl, g20, o20⟩
  have O3 := Lib.hid (own_Gx O3.out g20 (own_ne (fun a b ha hb => by have h1 := B3.out a ha; have h2 := B8.out b hb; omega)))
  have O4 := Lib.hid (own_Gx O4.out g20 (own_ne (fun a b ha hb => by have h1 := B4.out a ha; have h2 := B8.out b hb; omega)))
  have O7 := Lib.hid (own_Gx O7.out g20 (own_ne (fun a b ha hb => NE7.out a b ha hb)))
  have s20 := World.grownBy.size g20
  have G20 := Lib.hid (Gx.G G19.out g20 (map_block (fun a ha => by have h1 := B8.out a ha; omega)))
  have O8 := Lib.hid o20
  clear g20 o20
  go_wp2_with fail
  refine (heldInt64S_anyG _ R.1.length _ 1 _ (rd_ints O7.out) (by omega) (by omega) (by omega)).mono ?_
  rintro e w21 ⟨rfl, g21⟩
  have O3 := Lib.hid (own_G O3.out g21)
  have O4 := Lib.hid (own_G O4.out g21)
  have O7 := Lib.hid (own_G O7.out g21)
  have O8 := Lib.hid (own_G O8.out g21)
  have s21 := g21.size
  have G21 := Lib.hid (G20.out.trans g21)
  clear g21
  go_wp2_with fail
  refine (heldInt64S_anyG _ R.2.1.length _ (1 + (R.1.length : Int)) _ (rd_ints O8.out) (by omega) (by omega) (by omega)).mono ?_
  rintro e w22 ⟨rfl, g22⟩
  have O3 := Lib.hid (own_G O3.out g22)
  have O4 := Lib.hid (own_G O4.out g22)
  have O7 := Lib.hid (own_G O7.out g22)
  have O8 := Lib.hid (own_G O8.out g22)
  have s22 := g22.size
  have G22 := Lib.hid (G21.out.trans g22)
  clear g22
  go_wp2_with fail
  refine (toChannelS_any A0 n0 c0 L0 _ (HR0.out.G G22.out) Hn0.out (by omega)).mono ?_
  rintro e w23 ⟨b11, rfl, hb11, hl11, g23, o11⟩
  have O3 := Lib.hid (own_G O3.out g23)
  have O4 := Lib.hid (own_G O4.out g23)
  have O7 := Lib.hid (own_G O7.out g23)
  have O8 := Lib.hid (own_G O8.out g23)
  have s23 := g23.size
  have O11 := Lib.hid o11
  clear o11
  have G23 := Lib.hid (G22.out.trans g23)
  clear g23
  go_wp2_with fail
  refine (toInt64SS_any A1 n1 c1 L1 _ (HR1.out.g G23.out) Hn1.out (by omega) HROW1.out).mono ?_
  rintro e w24 ⟨q12, rfl, g24, hl12, o12⟩
  have O3 := Lib.hid (own_G O3.out g24)
  have O4 := Lib.hid (own_G O4.out g24)
  have O7 := Lib.hid (own_G O7.out g24)
  have O8 := Lib.hid (own_G O8.out g24)
  have O11 := Lib.hid (own_G O11.out g24)
  have s24 := g24.size
  have O12 := Lib.hid o12
  clear o12
  have G24 := Lib.hid (G23.out.trans g24)
  clear g24
  go_wp2_with fail
  refine (iMixSamples_any _ n0 _ L0 _ n1 _ L1 _ (HT.out.G G24.out) (rd_own (by decide) cChannel_len O11.out) Hn0.out (by omega) HW0.out O12.out.rd Hn1.out (by omega) HROW1.out).mono ?_
  rintro e w25 ⟨A_13, c_13, A_14, c_14, rfl, g25, ne13, o13, o14⟩
  have NE13 := Lib.hid ne13
  clear ne13
  have O3 := Lib.hid (own_G O3.out g25)
  have O4 := Lib.hid (own_G O4.out g25)
  have O7 := Lib.hid (own_G O7.out g25)
  have O8 := Lib.hid (own_G O8.out g25)
  have O11 := Lib.hid (own_G O11.out g25)
  have O12 := Lib.hid (O12.out.g g25)
  have s25 := g25.size
  have O13 := Lib.hid o13
  clear o13
  have O14 := Lib.hid o14
  clear o14
  have G25 := Lib.hid (G24.out.trans g25)
  clear g25
  rw [HX.out] at O13 O14 ⊢
  go_wp2_with fail
  refine (eqInt64S_G _ _ R.1.length _ _ R.1 _ (rd_ints O13.out) (rd_ints O3.out) rfl (by omega)).mono ?_
  rintro e w26 ⟨rfl, g26⟩
  have O3 := Lib.hid (own_G O3.out g26)
  have O4 := Lib.hid (own_G O4.out g26)
  have O7 := Lib.hid (own_G O7.out g26)
  have O8 := Lib.hid (own_G O8.out g26)
  have O11 := Lib.hid (own_G O11.out g26)
  have O12 := Lib.hid (O12.out.g g26)
  have O13 := Lib.hid (own_G O13.out g26)
  have O14 := Lib.hid (own_G O14.out g26)
  have s26 := g26.size
  have G26 := Lib.hid (G25.out.trans g26)
  clear g26
  go_wp2_with fail
  refine (eqInt64S_G _ _ R.2.1.length _ _ R.2.1 _ (rd_ints O14.out) (rd_ints O4.out) rfl (by omega)).mono ?_
  rintro e w27 ⟨rfl, g27⟩
  have O3 := Lib.hid (own_G O3.out g27)
  have O4 := Lib.hid (own_G O4.out g27)
  have O7 := Lib.hid (own_G O7.out g27)
  have O8 := Lib.hid (own_G O8.out g27)
  have O11 := Lib.hid (own_G O11.out g27)
  have O12 := Lib.hid (O12.out.g g27)
  have O13 := Lib.hid (own_G O13.out g27)
  have O14 := Lib.hid (own_G O14.out g27)
  have s27 := g27.size
  have G27 := Lib.hid (G26.out.trans g27)
  clear g27
  go_wp2_with fail
  refine (heldInt64S_anyG _ R.1.length _ 1 _ (rd_ints O7.out) (by omega) (by omega) (by omega)).mono ?_
  rintro e w28 ⟨rfl, g28⟩
  have O3 := Lib.hid (own_G O3.out g28)
  have O4 := Lib.hid (own_G O4.out g28)
  have O7 := Lib.hid (own_G O7.out g28)
  have O8 := Lib.hid (own_G O8.out g28)
  have O11 := Lib.hid (own_G O11.out g28)
  have O12 := Lib.hid (O12.out.g g28)
  have O13 := Lib.hid (own_G O13.out g28)
  have O14 := Lib.hid (own_G O14.out g28)
  have s28 := g28.size
  have G28 := Lib.hid (G27.out.trans g28)
  clear g28
  go_wp2_with fail
  refine (heldInt64S_anyG _ R.2.1.length _ (1 + (R.1.length : Int)) _ (rd_ints O8.out) (by omega) (by omega) (by omega)).mono ?_
  rintro e w29 ⟨rfl, g29⟩
  have O3 := Lib.hid (own_G O3.out g29)
  have O4 := Lib.hid (own_G O4.out g29)
  have O7 := Lib.hid (own_G O7.out g29)
  have O8 := Lib.hid (own_G O8.out g29)
  have O11 := Lib.hid (own_G O11.out g29)
  have O12 := Lib.hid (O12.out.g g29)
  have O13 := Lib.hid (own_G O13.out g29)
  have O14 := Lib.hid (own_G O14.out g29)
  have s29 := g29.size
  have G29 := Lib.hid (G28.out.trans g29)
  clear g29
  go_wp2
  go_ret
  exact ⟨rfl, G29.out⟩
end Go.Proofs.YtnnhffehboknnaaDoor
