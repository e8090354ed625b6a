/-
  The law of AddFixture, walked.
-/
import Derived.Test.YthghcpgeddepnaaAddFixture
import Derived.Test.YthghcpgeddepnaaOpFixture
import Derived.Deep.RegionHeld3
import Derived.Deep.DrawnRows
namespace Go.Proofs.Ythghcpgeddepnaa
open Go.RowKit
attribute [local go_sem ↓] Go.wp_at_zero Go.wp_at_succ

set_option maxRecDepth 20000 in
set_option maxHeartbeats 4000000 in
theorem lawAddFixture (A0 : Option Addr) (n0 c0 : Nat) (L0 : List SFixture) (v1 : Value) (x1 : SFixture) (w : World) (h0 : ArgFixture w A0 n0 c0 L0) (h1 : v1 = .agg #[.string x1.Name, .int .i64 x1.Universe, .int .i64 x1.Address, .int .i64 x1.Width] ∧ WfFixture x1) :
    Calls Try.prog 13 #[.slice A0 n0 c0, v1] w fun e w' => e = .returned (.bool true) ∧ Below w.heap.size w w' := by
  obtain ⟨hm0, hn0, hr0, hw0⟩ := h0
  have HW0 := Lib.hid hw0
  clear hw0
  unfold maxLen at hm0
  have Hn0 := Lib.hid hn0
  have HR0 := Lib.hid hr0
  clear hn0 hr0
  have t0 := tot_nonneg szFixture szFixture_nonneg L0
  obtain ⟨rfl, hw1⟩ := h1
  have HW1 := Lib.hid hw1
  clear hw1
  have t1 := szFixture_nonneg x1
  by_cases q0 : (1048576 : Int) - n0 - tot szFixture L0 < 0
  case pos =>
    have HZ := Lib.hid (szR_neg q0)
    go_enter Try.func13, Try.ntmps13
    go_wp2_with fail
    refine (szFixtureS_any A0 n0 c0 L0 _ _ (HR0.out.G ((G.refl _).alloc _)) Hn0.out HW0.out (by unfold maxLen; omega) (by omega) (by omega)).mono ?_
    rintro e w1 ⟨rfl, g1⟩
    have cb1_0 := g1.cell (p := ⟨w.heap.size, 0, none⟩) (v := .string x1.Name) (by simp [World.cell?_alloc_at])
    have cb1_1 := g1.cell (p := ⟨w.heap.size, 1, none⟩) (v := .int .i64 x1.Universe) (by simp [World.cell?_alloc_at])
    have cb1_2 := g1.cell (p := ⟨w.heap.size, 2, none⟩) (v := .int .i64 x1.Address) (by simp [World.cell?_alloc_at])
    have cb1_3 := g1.cell (p := ⟨w.heap.size, 3, none⟩) (v := .int .i64 x1.Width) (by simp [World.cell?_alloc_at])
    have G1 := Lib.hid (((G.refl _).alloc _).trans g1)
    clear g1
    rw [HZ.out]
    go_wp2
    go_ret
    exact ⟨rfl, G1.out⟩
  have HZ0 := Lib.hid (szR_pos (y := (1048576 : Int) - n0 - tot szFixture L0) (by omega))
  by_cases q1 : (1048576 : Int) - n0 - tot szFixture L0 - szFixture x1 < 0
  case pos =>
    have HZ := Lib.hid (szR_neg q1)
    go_enter Try.func13, Try.ntmps13
    go_wp2_with fail
    refine (szFixtureS_any A0 n0 c0 L0 _ _ (HR0.out.G ((G.refl _).alloc _)) Hn0.out HW0.out (by unfold maxLen; omega) (by omega) (by omega)).mono ?_
    rintro e w1 ⟨rfl, g1⟩
    have cb1_0 := g1.cell (p := ⟨w.heap.size, 0, none⟩) (v := .string x1.Name) (by simp [World.cell?_alloc_at])
    have cb1_1 := g1.cell (p := ⟨w.heap.size, 1, none⟩) (v := .int .i64 x1.Universe) (by simp [World.cell?_alloc_at])
    have cb1_2 := g1.cell (p := ⟨w.heap.size, 2, none⟩) (v := .int .i64 x1.Address) (by simp [World.cell?_alloc_at])
    have cb1_3 := g1.cell (p := ⟨w.heap.size, 3, none⟩) (v := .int .i64 x1.Width) (by simp [World.cell?_alloc_at])
    have G1 := Lib.hid (((G.refl _).alloc _).trans g1)
    clear g1
    rw [HZ0.out]
    go_wp2_with fail
    refine (szFixture_any x1 _ _ HW1.out (by omega) (by omega)).mono ?_
    rintro e w2 ⟨rfl, g2⟩
    replace cb1_0 := g2.cell cb1_0
    replace cb1_1 := g2.cell cb1_1
    replace cb1_2 := g2.cell cb1_2
    replace cb1_3 := g2.cell cb1_3
    have G2 := Lib.hid (G1.out.trans g2)
    clear g2
    rw [HZ.out]
    go_wp2
    go_ret
    exact ⟨rfl, G2.out⟩
  have HZ1 := Lib.hid (szR_pos (y := (1048576 : Int) - n0 - tot szFixture L0 - szFixture x1) (by omega))
  obtain ⟨R, HX⟩ : ∃ R, Hid (addFR L0 x1 = R) := ⟨_, rfl⟩
  go_enter Try.func13, Try.ntmps13
  go_wp2_with fail
  refine (szFixtureS_any A0 n0 c0 L0 _ _ (HR0.out.G ((G.refl _).alloc _)) Hn0.out HW0.out (by unfold maxLen; omega) (by omega) (by omega)).mono ?_
  rintro e w1 ⟨rfl, g1⟩
  have cb1_0 := g1.cell (p := ⟨w.heap.size, 0, none⟩) (v := .string x1.Name) (by simp [World.cell?_alloc_at])
  have cb1_1 := g1.cell (p := ⟨w.heap.size, 1, none⟩) (v := .int .i64 x1.Universe) (by simp [World.cell?_alloc_at])
  have cb1_2 := g1.cell (p := ⟨w.heap.size, 2, none⟩) (v := .int .i64 x1.Address) (by simp [World.cell?_alloc_at])
  have cb1_3 := g1.cell (p := ⟨w.heap.size, 3, none⟩) (v := .int .i64 x1.Width) (by simp [World.cell?_alloc_at])
  have G1 := Lib.hid (((G.refl _).alloc _).trans g1)
  clear g1
  rw [HZ0.out]
  go_wp2_with fail
  refine (szFixture_any x1 _ _ HW1.out (by omega) (by omega)).mono ?_
  rintro e w2 ⟨rfl, g2⟩
  replace cb1_0 := g2.cell cb1_0
  replace cb1_1 := g2.cell cb1_1
  replace cb1_2 := g2.cell cb1_2
  replace cb1_3 := g2.cell cb1_3
  have G2 := Lib.hid (G1.out.trans g2)
  clear g2
  rw [HZ1.out]
  have s0 := G2.out.size
  have s0v1 := block_lt_of_cell cb1_0
  simp only at s0v1
  have hRb := addFR_len L0 x1
  rw [HX.out] at hRb
  go_wp2_with fail
  go_region_held3 (fun w' => w'.cell? ⟨w.heap.size, 0, none⟩ = some (.string x1.Name) ∧ w'.cell? ⟨w.heap.size, 1, none⟩ = some (.int .i64 x1.Universe) ∧ w'.cell? ⟨w.heap.size, 2, none⟩ = some (.int .i64 x1.Address) ∧ w'.cell? ⟨w.heap.size, 3, none⟩ = some (.int .i64 x1.Width)) (first | go_keep | exact ⟨cb1_0, cb1_1, cb1_2, cb1_3⟩) (first | (go_at_call 35; refine (toFixtureS_any A0 n0 c0 L0 _ ?hq Hn0.out ?hb).mono ?_; (case hq => exact HR0.out.G G2.out.drew); (case hb => omega); rintro e w3 ⟨b1, rfl, hb1, hl1, g3, o1⟩; have s3 : w2.heap.size ≤ w3.heap.size := g3.size; have O1 := Lib.hid o1; clear o1; replace cb1_0 := g3.cell cb1_0; replace cb1_1 := g3.cell cb1_1; replace cb1_2 := g3.cell cb1_2; replace cb1_3 := g3.cell cb1_3; have G3 := Lib.hid (G2.out.drew.trans g3); clear g3) | (go_at_call 16; refine (toFixture_any x1 _).mono ?_; rintro e w4 ⟨rfl, g4⟩; have O1 := Lib.hid (own_G (w := w3) O1.out g4); have s4 : w3.heap.size ≤ w4.heap.size := g4.size; replace cb1_0 := g4.cell cb1_0; replace cb1_1 := g4.cell cb1_1; replace cb1_2 := g4.cell cb1_2; replace cb1_3 := g4.cell cb1_3; have G4 := Lib.hid (G3.out.trans g4); clear g4) | (go_at_call 50; refine (sAddFixture_any _ n0 _ L0 x1 _ (rd_own (by decide) cFixture_len O1.out) Hn0.out ?hb0 (Nat.le_refl _) HW0.out HW1.out).mono ?_; (case hb0 => omega); rintro e w5 ⟨A_2, c_2, rfl, g5, o2⟩; have O1 := Lib.hid (own_G (w := w4) O1.out g5); have s5 : w4.heap.size ≤ w5.heap.size := g5.size; have O2 := Lib.hid o2; clear o2; replace cb1_0 := g5.cell cb1_0; replace cb1_1 := g5.cell cb1_1; replace cb1_2 := g5.cell cb1_2; replace cb1_3 := g5.cell cb1_3; have G5 := Lib.hid (G4.out.trans g5); clear g5))
  rw [HX.out] at O2 ⊢
  have B2 := Lib.hid (own_bd O2.out)
  go_wp2_with fail
  refine (toFixtureS_any A0 n0 c0 L0 _ (HR0.out.G G5.out) Hn0.out (by omega)).mono ?_
  rintro e w6 ⟨b3, rfl, hb3, hl3, g6, o3⟩
  have O2 := Lib.hid (own_G O2.out g6)
  have s6 := g6.size
  have O3 := Lib.hid o3
  clear o3
  replace cb1_0 := g6.cell cb1_0
  replace cb1_1 := g6.cell cb1_1
  replace cb1_2 := g6.cell cb1_2
  replace cb1_3 := g6.cell cb1_3
  have G6 := Lib.hid (G5.out.trans g6)
  clear g6
  have B3 := Lib.hid (own_bd O3.out)
  go_wp2_with fail
  refine (toFixture_any x1 _).mono ?_
  rintro e w7 ⟨rfl, g7⟩
  have O2 := Lib.hid (own_G O2.out g7)
  have O3 := Lib.hid (own_G O3.out g7)
  have s7 := g7.size
  replace cb1_0 := g7.cell cb1_0
  replace cb1_1 := g7.cell cb1_1
  replace cb1_2 := g7.cell cb1_2
  replace cb1_3 := g7.cell cb1_3
  have G7 := Lib.hid (G6.out.trans g7)
  clear g7
  go_wp2_with fail
  refine (iAddFixture_any _ n0 _ L0 x1 _ (rd_own (by decide) cFixture_len O3.out) Hn0.out (by omega) (Nat.le_refl _) HW0.out HW1.out).mono ?_
  rintro e w8 ⟨A_4, c_4, rfl, g8, o4⟩
  have O2 := Lib.hid (own_G O2.out g8)
  have O3 := Lib.hid (own_G O3.out g8)
  have s8 := g8.size
  have O4 := Lib.hid o4
  clear o4
  replace cb1_0 := g8.cell cb1_0
  replace cb1_1 := g8.cell cb1_1
  replace cb1_2 := g8.cell cb1_2
  replace cb1_3 := g8.cell cb1_3
  have G8 := Lib.hid (G7.out.trans g8)
  clear g8
  rw [HX.out] at O4 ⊢
  have B4 := Lib.hid (own_bd O4.out)
  go_wp2_with fail
  refine (eqFixtureS_same _ _ R.1.length _ _ R.1 _ (rd_own (by decide) cFixture_len O4.out) (rd_own (by decide) cFixture_len O2.out) rfl (by omega)).mono ?_
  rintro e w9 ⟨rfl, g9⟩
  have O2 := Lib.hid (own_G O2.out g9)
  have O3 := Lib.hid (own_G O3.out g9)
  have O4 := Lib.hid (own_G O4.out g9)
  have s9 := g9.size
  replace cb1_0 := g9.cell cb1_0
  replace cb1_1 := g9.cell cb1_1
  replace cb1_2 := g9.cell cb1_2
  replace cb1_3 := g9.cell cb1_3
  have G9 := Lib.hid (G8.out.trans g9)
  clear g9
  go_wp2_with fail
  refine (toFixtureS_any A0 n0 c0 L0 _ (HR0.out.G G9.out) Hn0.out (by omega)).mono ?_
  rintro e w10 ⟨b5, rfl, hb5, hl5, g10, o5⟩
  have O2 := Lib.hid (own_G O2.out g10)
  have O3 := Lib.hid (own_G O3.out g10)
  have O4 := Lib.hid (own_G O4.out g10)
  have s10 := g10.size
  have O5 := Lib.hid o5
  clear o5
  replace cb1_0 := g10.cell cb1_0
  replace cb1_1 := g10.cell cb1_1
  replace cb1_2 := g10.cell cb1_2
  replace cb1_3 := g10.cell cb1_3
  have G10 := Lib.hid (G9.out.trans g10)
  clear g10
  go_wp2_with fail
  refine (eqFixtureS_same _ _ n0 _ _ L0 _ (rd_own (by decide) cFixture_len O3.out) (rd_own (by decide) cFixture_len O5.out) Hn0.out (by omega)).mono ?_
  rintro e w11 ⟨rfl, g11⟩
  have O2 := Lib.hid (own_G O2.out g11)
  have O3 := Lib.hid (own_G O3.out g11)
  have O4 := Lib.hid (own_G O4.out g11)
  have O5 := Lib.hid (own_G O5.out g11)
  have s11 := g11.size
  replace cb1_0 := g11.cell cb1_0
  replace cb1_1 := g11.cell cb1_1
  replace cb1_2 := g11.cell cb1_2
  replace cb1_3 := g11.cell cb1_3
  have G11 := Lib.hid (G10.out.trans g11)
  clear g11
  go_wp2_with fail
  refine (markFixtureS_any _ _ n0 _ _ 1 _ O3.out (by omega) (by omega) (by omega)).mono ?_
  rintro e w12 ⟨rfl, g12, o12⟩
  have O2 := Lib.hid (own_Gx O2.out g12 (own_ne (fun a b ha hb => by have h1 := B2.out a ha; have h2 := B3.out b hb; omega)))
  have O4 := Lib.hid (own_Gx O4.out g12 (own_ne (fun a b ha hb => by have h1 := B4.out a ha; have h2 := B3.out b hb; omega)))
  have s12 := World.grownBy.size g12
  have G12 := Lib.hid (Gx.G G11.out g12 (map_block (fun a ha => by have h1 := B3.out a ha; omega)))
  replace cb1_0 := Gx.cell g12 cb1_0 (map_ne (fun a ha => by have h1 := B3.out a ha; simp only; omega))
  replace cb1_1 := Gx.cell g12 cb1_1 (map_ne (fun a ha => by have h1 := B3.out a ha; simp only; omega))
  replace cb1_2 := Gx.cell g12 cb1_2 (map_ne (fun a ha => by have h1 := B3.out a ha; simp only; omega))
  replace cb1_3 := Gx.cell g12 cb1_3 (map_ne (fun a ha => by have h1 := B3.out a ha; simp only; omega))
  have O3 := Lib.hid o12
  clear g12 o12
  go_wp2_with fail
  refine (eqFixtureS_same _ _ R.1.length _ _ R.1 _ (rd_own (by decide) cFixture_len O4.out) (rd_own (by decide) cFixture_len O2.out) rfl (by omega)).mono ?_
  rintro e w13 ⟨rfl, g13⟩
  have O2 := Lib.hid (own_G O2.out g13)
  have O4 := Lib.hid (own_G O4.out g13)
  have s13 := g13.size
  replace cb1_0 := g13.cell cb1_0
  replace cb1_1 := g13.cell cb1_1
  replace cb1_2 := g13.cell cb1_2
  replace cb1_3 := g13.cell cb1_3
  have G13 := Lib.hid (G12.out.trans g13)
  clear g13
  go_wp2_with fail
  refine (markFixtureS_any _ _ R.1.length _ _ 1 _ O4.out (by omega) (by omega) (by omega)).mono ?_
  rintro e w14 ⟨rfl, g14, o14⟩
  have O2 := Lib.hid (own_Gx O2.out g14 (own_ne (fun a b ha hb => by have h1 := B2.out a ha; have h2 := B4.out b hb; omega)))
  have s14 := World.grownBy.size g14
  have G14 := Lib.hid (Gx.G G13.out g14 (map_block (fun a ha => by have h1 := B4.out a ha; omega)))
  replace cb1_0 := Gx.cell g14 cb1_0 (map_ne (fun a ha => by have h1 := B4.out a ha; simp only; omega))
  replace cb1_1 := Gx.cell g14 cb1_1 (map_ne (fun a ha => by have h1 := B4.out a ha; simp only; omega))
  replace cb1_2 := Gx.cell g14 cb1_2 (map_ne (fun a ha => by have h1 := B4.out a ha; simp only; omega))
  replace cb1_3 := Gx.cell g14 cb1_3 (map_ne (fun a ha => by have h1 := B4.out a ha; simp only; omega))
  have O4 := Lib.hid o14
  clear g14 o14
  go_wp2_with fail
  refine (heldFixtureS_any _ R.1.length _ 1 _ (rd_own (by decide) cFixture_len O4.out) (by omega) (by omega) (by omega)).mono ?_
  rintro e w15 ⟨rfl, g15⟩
  have O2 := Lib.hid (own_G O2.out g15)
  have O4 := Lib.hid (own_G O4.out g15)
  have s15 := g15.size
  replace cb1_0 := g15.cell cb1_0
  replace cb1_1 := g15.cell cb1_1
  replace cb1_2 := g15.cell cb1_2
  replace cb1_3 := g15.cell cb1_3
  have G15 := Lib.hid (G14.out.trans g15)
  clear g15
  go_wp2_with fail
  go_region_held3 (fun w' => w'.cell? ⟨w.heap.size, 0, none⟩ = some (.string x1.Name) ∧ w'.cell? ⟨w.heap.size, 1, none⟩ = some (.int .i64 x1.Universe) ∧ w'.cell? ⟨w.heap.size, 2, none⟩ = some (.int .i64 x1.Address) ∧ w'.cell? ⟨w.heap.size, 3, none⟩ = some (.int .i64 x1.Width)) (first | go_keep | exact ⟨cb1_0, cb1_1, cb1_2, cb1_3⟩) (first | (go_at_call 35; refine (toFixtureS_any A0 n0 c0 L0 _ ?hq Hn0.out ?hb).mono ?_; (case hq => exact HR0.out.G G15.out.drew); (case hb => omega); rintro e w16 ⟨b6, rfl, hb6, hl6, g16, o6⟩; have O2 := Lib.hid (own_G (w := w15.drew) O2.out g16); have O4 := Lib.hid (own_G (w := w15.drew) O4.out g16); have s16 : w15.heap.size ≤ w16.heap.size := g16.size; have O6 := Lib.hid o6; clear o6; replace cb1_0 := g16.cell cb1_0; replace cb1_1 := g16.cell cb1_1; replace cb1_2 := g16.cell cb1_2; replace cb1_3 := g16.cell cb1_3; have G16 := Lib.hid (G15.out.drew.trans g16); clear g16) | (go_at_call 16; refine (toFixture_any x1 _).mono ?_; rintro e w17 ⟨rfl, g17⟩; have O2 := Lib.hid (own_G (w := w16) O2.out g17); have O4 := Lib.hid (own_G (w := w16) O4.out g17); have O6 := Lib.hid (own_G (w := w16) O6.out g17); have s17 : w16.heap.size ≤ w17.heap.size := g17.size; replace cb1_0 := g17.cell cb1_0; replace cb1_1 := g17.cell cb1_1; replace cb1_2 := g17.cell cb1_2; replace cb1_3 := g17.cell cb1_3; have G17 := Lib.hid (G16.out.trans g17); clear g17) | (go_at_call 51; refine (iAddFixture_any _ n0 _ L0 x1 _ (rd_own (by decide) cFixture_len O6.out) Hn0.out ?hb0 (Nat.le_refl _) HW0.out HW1.out).mono ?_; (case hb0 => omega); rintro e w18 ⟨A_7, c_7, rfl, g18, o7⟩; have O2 := Lib.hid (own_G (w := w17) O2.out g18); have O4 := Lib.hid (own_G (w := w17) O4.out g18); have O6 := Lib.hid (own_G (w := w17) O6.out g18); have s18 : w17.heap.size ≤ w18.heap.size := g18.size; have O7 := Lib.hid o7; clear o7; replace cb1_0 := g18.cell cb1_0; replace cb1_1 := g18.cell cb1_1; replace cb1_2 := g18.cell cb1_2; replace cb1_3 := g18.cell cb1_3; have G18 := Lib.hid (G17.out.trans g18); clear g18))
  rw [HX.out] at O7 ⊢
  go_wp2_with fail
  refine (eqFixtureS_same _ _ R.1.length _ _ R.1 _ (rd_own (by decide) cFixture_len O7.out) (rd_own (by decide) cFixture_len O2.out) rfl (by omega)).mono ?_
  rintro e w19 ⟨rfl, g19⟩
  have O2 := Lib.hid (own_G O2.out g19)
  have O4 := Lib.hid (own_G O4.out g19)
  have O6 := Lib.hid (own_G O6.out g19)
  have O7 := Lib.hid (own_G O7.out g19)
  have s19 := g19.size
  replace cb1_0 := g19.cell cb1_0
  replace cb1_1 := g19.cell cb1_1
  replace cb1_2 := g19.cell cb1_2
  replace cb1_3 := g19.cell cb1_3
  have G19 := Lib.hid (G18.out.trans g19)
  clear g19
  go_wp2_with fail
  refine (heldFixtureS_any _ R.1.length _ 1 _ (rd_own (by decide) cFixture_len O4.out) (by omega) (by omega) (by omega)).mono ?_
  rintro e w20 ⟨rfl, g20⟩
  have O2 := Lib.hid (own_G O2.out g20)
  have O4 := Lib.hid (own_G O4.out g20)
  have O6 := Lib.hid (own_G O6.out g20)
  have O7 := Lib.hid (own_G O7.out g20)
  have s20 := g20.size
  replace cb1_0 := g20.cell cb1_0
  replace cb1_1 := g20.cell cb1_1
  replace cb1_2 := g20.cell cb1_2
  replace cb1_3 := g20.cell cb1_3
  have G20 := Lib.hid (G19.out.trans g20)
  clear g20
  go_wp2
  go_ret
  exact ⟨rfl, G20.out⟩
end Go.Proofs.Ythghcpgeddepnaa
