/-
  The law of AudibleChannels, walked.
-/
import Derived.Test.YtnnhffehboknnaaAudible
import Derived.Test.YtnnhffehboknnaaOpChannel
namespace Go.Proofs.Ytnnhffehboknnaa
open Go.RowKit

set_option maxRecDepth 20000 in
set_option maxHeartbeats 4000000 in
theorem lawAudibleChannels (A0 : Option Addr) (n0 c0 : Nat) (L0 : List SChannel) (w : World) (h0 : ArgChannel w A0 n0 c0 L0) :
    Calls Try.prog 11 #[.slice A0 n0 c0] w fun e w' => e = .returned (.bool true) ∧ Below w.heap.size w w' := by
  obtain ⟨hm0, hn0, hr0, hw0⟩ := h0
  have HW0 := Lib.hid hw0
  clear hw0
  unfold maxLen at hm0
  have Hn0 := Lib.hid hn0
  have HR0 := Lib.hid hr0
  clear hn0 hr0
  have t0 := tot_nonneg szChannel szChannel_nonneg L0
  by_cases q0 : (1048576 : Int) - n0 - tot szChannel L0 < 0
  case pos =>
    have HZ := Lib.hid (szR_neg q0)
    go_enter Try.func11, Try.ntmps11
    go_wp2_with fail
    refine (szChannelS_any A0 n0 c0 L0 _ _ HR0.out Hn0.out HW0.out (by unfold maxLen; omega) (by omega) (by omega)).mono ?_
    rintro e w1 ⟨rfl, g1⟩
    have G1 := Lib.hid (g1)
    clear g1
    rw [HZ.out]
    go_wp2
    go_ret
    exact ⟨rfl, G1.out⟩
  have HZ0 := Lib.hid (szR_pos (y := (1048576 : Int) - n0 - tot szChannel L0) (by omega))
  obtain ⟨R, HX⟩ : ∃ R, Hid (audR L0 = R) := ⟨_, rfl⟩
  go_enter Try.func11, Try.ntmps11
  go_wp2_with fail
  refine (szChannelS_any A0 n0 c0 L0 _ _ HR0.out Hn0.out HW0.out (by unfold maxLen; omega) (by omega) (by omega)).mono ?_
  rintro e w1 ⟨rfl, g1⟩
  have G1 := Lib.hid (g1)
  clear g1
  rw [HZ0.out]
  have s0 := G1.out.size
  have hRb := audR_len L0
  rw [HX.out] at hRb
  go_wp2_with fail
  refine (toChannelS_any A0 n0 c0 L0 _ (HR0.out.G G1.out) Hn0.out (by omega)).mono ?_
  rintro e w2 ⟨b1, rfl, hb1, hl1, g2, o1⟩
  have s2 := g2.size
  have O1 := Lib.hid o1
  clear o1
  have G2 := Lib.hid (G1.out.trans g2)
  clear g2
  go_wp2_with fail
  refine (sAudibleChannels_any _ n0 _ L0 _ (rd_own (by decide) cChannel_len O1.out) Hn0.out (by omega) HW0.out).mono ?_
  rintro e w3 ⟨A_2, c_2, rfl, g3, o2⟩
  have O1 := Lib.hid (own_G O1.out g3)
  have s3 := g3.size
  have O2 := Lib.hid o2
  clear o2
  have G3 := Lib.hid (G2.out.trans g3)
  clear g3
  rw [HX.out] at O2 ⊢
  have B2 := Lib.hid (own_bd O2.out)
  go_wp2_with fail
  refine (toChannelS_any A0 n0 c0 L0 _ (HR0.out.G G3.out) Hn0.out (by omega)).mono ?_
  rintro e w4 ⟨b3, rfl, hb3, hl3, g4, o3⟩
  have O2 := Lib.hid (own_G O2.out g4)
  have s4 := g4.size
  have O3 := Lib.hid o3
  clear o3
  have G4 := Lib.hid (G3.out.trans g4)
  clear g4
  have B3 := Lib.hid (own_bd O3.out)
  go_wp2_with fail
  refine (iAudibleChannels_any _ n0 _ L0 _ (rd_own (by decide) cChannel_len O3.out) Hn0.out (by omega) HW0.out).mono ?_
  rintro e w5 ⟨A_4, c_4, rfl, g5, o4⟩
  have O2 := Lib.hid (own_G O2.out g5)
  have O3 := Lib.hid (own_G O3.out g5)
  have s5 := g5.size
  have O4 := Lib.hid o4
  clear o4
  have G5 := Lib.hid (G4.out.trans g5)
  clear g5
  rw [HX.out] at O4 ⊢
  have B4 := Lib.hid (own_bd O4.out)
  go_wp2_with fail
  refine (eqStringS_same _ _ R.1.length _ _ R.1 _ (rd_strs O4.out) (rd_strs O2.out) rfl (by omega)).mono ?_
  rintro e w6 ⟨rfl, g6⟩
  have O2 := Lib.hid (own_G O2.out g6)
  have O3 := Lib.hid (own_G O3.out g6)
  have O4 := Lib.hid (own_G O4.out g6)
  have s6 := g6.size
  have G6 := Lib.hid (G5.out.trans g6)
  clear g6
  go_wp2_with fail
  refine (toChannelS_any A0 n0 c0 L0 _ (HR0.out.G G6.out) Hn0.out (by omega)).mono ?_
  rintro e w7 ⟨b5, rfl, hb5, hl5, g7, o5⟩
  have O2 := Lib.hid (own_G O2.out g7)
  have O3 := Lib.hid (own_G O3.out g7)
  have O4 := Lib.hid (own_G O4.out g7)
  have s7 := g7.size
  have O5 := Lib.hid o5
  clear o5
  have G7 := Lib.hid (G6.out.trans g7)
  clear g7
  go_wp2_with fail
  refine (eqChannelS_same _ _ n0 _ _ L0 _ (rd_own (by decide) cChannel_len O3.out) (rd_own (by decide) cChannel_len O5.out) Hn0.out (by omega)).mono ?_
  rintro e w8 ⟨rfl, g8⟩
  have O2 := Lib.hid (own_G O2.out g8)
  have O3 := Lib.hid (own_G O3.out g8)
  have O4 := Lib.hid (own_G O4.out g8)
  have O5 := Lib.hid (own_G O5.out g8)
  have s8 := g8.size
  have G8 := Lib.hid (G7.out.trans g8)
  clear g8
  go_wp2_with fail
  refine (markChannelS_any _ _ n0 _ _ 1 _ O3.out (by omega) (by omega) (by omega)).mono ?_
  rintro e w9 ⟨rfl, g9, o9⟩
  have O2 := Lib.hid (own_Gx O2.out g9 (own_ne (fun a b ha hb => by have h1 := B2.out a ha; have h2 := B3.out b hb; omega)))
  have O4 := Lib.hid (own_Gx O4.out g9 (own_ne (fun a b ha hb => by have h1 := B4.out a ha; have h2 := B3.out b hb; omega)))
  have s9 := World.grownBy.size g9
  have G9 := Lib.hid (Gx.G G8.out g9 (map_block (fun a ha => by have h1 := B3.out a ha; omega)))
  have O3 := Lib.hid o9
  clear g9 o9
  go_wp2_with fail
  refine (eqStringS_same _ _ R.1.length _ _ R.1 _ (rd_strs O4.out) (rd_strs O2.out) rfl (by omega)).mono ?_
  rintro e w10 ⟨rfl, g10⟩
  have O2 := Lib.hid (own_G O2.out g10)
  have O4 := Lib.hid (own_G O4.out g10)
  have s10 := g10.size
  have G10 := Lib.hid (G9.out.trans g10)
  clear g10
  go_wp2_with fail
  refine (markStringS_any _ _ R.1.length _ _ 1 _ O4.out (by omega) (by omega) (by omega)).mono ?_
  rintro e w11 ⟨rfl, g11, o11⟩
  have O2 := Lib.hid (own_Gx O2.out g11 (own_ne (fun a b ha hb => by have h1 := B2.out a ha; have h2 := B4.out b hb; omega)))
  have s11 := World.grownBy.size g11
  have G11 := Lib.hid (Gx.G G10.out g11 (map_block (fun a ha => by have h1 := B4.out a ha; omega)))
  have O4 := Lib.hid o11
  clear g11 o11
  go_wp2_with fail
  refine (heldStringS_any _ R.1.length _ 1 _ (rd_strs O4.out) (by omega) (by omega) (by omega)).mono ?_
  rintro e w12 ⟨rfl, g12⟩
  have O2 := Lib.hid (own_G O2.out g12)
  have O4 := Lib.hid (own_G O4.out g12)
  have s12 := g12.size
  have G12 := Lib.hid (G11.out.trans g12)
  clear g12
  go_wp2_with fail
  refine (toChannelS_any A0 n0 c0 L0 _ (HR0.out.G G12.out) Hn0.out (by omega)).mono ?_
  rintro e w13 ⟨b6, rfl, hb6, hl6, g13, o6⟩
  have O2 := Lib.hid (own_G O2.out g13)
  have O4 := Lib.hid (own_G O4.out g13)
  have s13 := g13.size
  have O6 := Lib.hid o6
  clear o6
  have G13 := Lib.hid (G12.out.trans g13)
  clear g13
  go_wp2_with fail
  refine (iAudibleChannels_any _ n0 _ L0 _ (rd_own (by decide) cChannel_len O6.out) Hn0.out (by omega) HW0.out).mono ?_
  rintro e w14 ⟨A_7, c_7, rfl, g14, o7⟩
  have O2 := Lib.hid (own_G O2.out g14)
  have O4 := Lib.hid (own_G O4.out g14)
  have O6 := Lib.hid (own_G O6.out g14)
  have s14 := g14.size
  have O7 := Lib.hid o7
  clear o7
  have G14 := Lib.hid (G13.out.trans g14)
  clear g14
  rw [HX.out] at O7 ⊢
  go_wp2_with fail
  refine (eqStringS_same _ _ R.1.length _ _ R.1 _ (rd_strs O7.out) (rd_strs O2.out) rfl (by omega)).mono ?_
  rintro e w15 ⟨rfl, g15⟩
  have O2 := Lib.hid (own_G O2.out g15)
  have O4 := Lib.hid (own_G O4.out g15)
  have O6 := Lib.hid (own_G O6.out g15)
  have O7 := Lib.hid (own_G O7.out g15)
  have s15 := g15.size
  have G15 := Lib.hid (G14.out.trans g15)
  clear g15
  go_wp2_with fail
  refine (heldStringS_any _ R.1.length _ 1 _ (rd_strs O4.out) (by omega) (by omega) (by omega)).mono ?_
  rintro e w16 ⟨rfl, g16⟩
  have O2 := Lib.hid (own_G O2.out g16)
  have O4 := Lib.hid (own_G O4.out g16)
  have O6 := Lib.hid (own_G O6.out g16)
  have O7 := Lib.hid (own_G O7.out g16)
  have s16 := g16.size
  have G16 := Lib.hid (G15.out.trans g16)
  clear g16
  go_wp2
  go_ret
  exact ⟨rfl, G16.out⟩
end Go.Proofs.Ytnnhffehboknnaa
