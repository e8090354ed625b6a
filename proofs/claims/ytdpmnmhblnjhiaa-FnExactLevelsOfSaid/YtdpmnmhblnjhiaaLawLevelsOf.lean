/-
  The law of LevelsOf, walked.
-/
import Derived.Test.YtdpmnmhblnjhiaaLvls
import Derived.Test.YtdpmnmhblnjhiaaMarkPl
import Derived.Test.YtdpmnmhblnjhiaaOpPlayer
namespace Go.Proofs.Ytdpmnmhblnjhiaa
open Go.RowKit
attribute [local go_sem ↓] Go.wp_at_zero Go.wp_at_succ

set_option maxRecDepth 20000 in
set_option maxHeartbeats 8000000 in
theorem lawLevelsOf (v0 : Value) (z0 : SPl) (w : World) (h0 : ArgPl w v0 z0) :
    Calls Try.prog 13 #[v0] w fun e w' => e = .returned (.bool true) ∧ Below w.heap.size w w' := by
  obtain ⟨rfl, ⟨hm, hn, hr, hw⟩, hwt, hwr⟩ := h0
  obtain ⟨A0, n0, c0, t0, r0, p0, L0⟩ := z0
  simp only at hm hn hr hw hwt hwr
  have HW0 := Lib.hid hw
  have Hn0 := Lib.hid hn
  have HR0 := Lib.hid hr
  unfold maxLen at hm
  have B0 := Lib.hid ((G.refl w).alloc (.cells #[.slice A0 n0 c0, .int .i64 t0, .int .i64 r0, .bool p0] 24))
  have q0 := tot_nonneg szCue szCue_nonneg L0
  have HQ : Hid (n0 ≤ maxLen) := Lib.hid (by unfold maxLen; omega)
  have KS := Lib.hid (fun (W : World) (g : G w W) => szPlayer_any A0 n0 c0 t0 r0 p0 L0 1048576 W (hr.G g) hn hw HQ.out (by omega) (by omega))
  have cb0_0 : (w.alloc (.cells #[.slice A0 n0 c0, .int .i64 t0, .int .i64 r0, .bool p0] 24)).cell? ⟨w.heap.size, 0, none⟩ = some (.slice A0 n0 c0) := (World.cell?_alloc_at _ _ _ 0 rfl).trans rfl
  have cb0_1 : (w.alloc (.cells #[.slice A0 n0 c0, .int .i64 t0, .int .i64 r0, .bool p0] 24)).cell? ⟨w.heap.size, 1, none⟩ = some (.int .i64 t0) := (World.cell?_alloc_at _ _ _ 1 rfl).trans rfl
  have cb0_2 : (w.alloc (.cells #[.slice A0 n0 c0, .int .i64 t0, .int .i64 r0, .bool p0] 24)).cell? ⟨w.heap.size, 2, none⟩ = some (.int .i64 r0) := (World.cell?_alloc_at _ _ _ 2 rfl).trans rfl
  have cb0_3 : (w.alloc (.cells #[.slice A0 n0 c0, .int .i64 t0, .int .i64 r0, .bool p0] 24)).cell? ⟨w.heap.size, 3, none⟩ = some (.bool p0) := (World.cell?_alloc_at _ _ _ 3 rfl).trans rfl
  clear hn hr hw hwt hwr
  unfold pV
  by_cases q : (1048576 : Int) - n0 - tot szCue L0 < 0
  case pos =>
    have HZ := Lib.hid (szR_neg q)
    go_enter Try.func13, Try.ntmps13
    go_wp2_with fail
    refine (KS.out _ B0.out).mono ?_
    rintro e w1 ⟨rfl, g1⟩
    replace cb0_0 := g1.cell cb0_0
    replace cb0_1 := g1.cell cb0_1
    replace cb0_2 := g1.cell cb0_2
    replace cb0_3 := g1.cell cb0_3
    have G1 := Lib.hid (B0.out.trans g1)
    have s1 := g1.size
    clear g1
    rw [HZ.out]
    dsimp only
    go_wp2
    go_ret
    exact ⟨rfl, G1.out⟩
  have HZ := Lib.hid (szR_pos (y := (1048576 : Int) - n0 - tot szCue L0) (by omega))
  have hb : n0 ≤ 1048576 := by omega
  obtain ⟨R, HX⟩ : ∃ R, Hid (lvsR L0 t0 r0 = R) := ⟨_, rfl⟩
  have hRb : R.1.length ≤ 1048576 := by rw [← HX.out]; exact Nat.le_trans (lvsR_len L0 t0 r0) (by rw [Hn0.out]; exact hb)
  have KT := Lib.hid (fun (W : World) (g : G w W) => toPlayer_any A0 n0 c0 t0 r0 p0 L0 W (HR0.out.G g) Hn0.out hb)
  go_enter Try.func13, Try.ntmps13
  go_wp2_with fail
  refine (KS.out _ B0.out).mono ?_
  rintro e w1 ⟨rfl, g1⟩
  replace cb0_0 := g1.cell cb0_0
  replace cb0_1 := g1.cell cb0_1
  replace cb0_2 := g1.cell cb0_2
  replace cb0_3 := g1.cell cb0_3
  have G1 := Lib.hid (B0.out.trans g1)
  have s1 := g1.size
  clear g1
  rw [HZ.out]
  dsimp only
  have bq0 := block_lt_of_cell cb0_0
  simp only at bq0
  go_wp2_with fail
  refine (KT.out _ G1.out).mono ?_
  rintro e w2 ⟨b1, rfl, hb1, hl1, g2, o1⟩
  replace cb0_0 := g2.cell cb0_0
  replace cb0_1 := g2.cell cb0_1
  replace cb0_2 := g2.cell cb0_2
  replace cb0_3 := g2.cell cb0_3
  have G2 := Lib.hid (G1.out.trans g2)
  have s2 := g2.size
  clear g2
  have O1 := Lib.hid o1
  clear o1
  have B1 := Lib.hid (own_bd O1.out)
  dsimp only
  go_wp2_with fail
  refine (sLevelsOf_any _ n0 _ t0 r0 p0 L0 _ (rd_own (by decide) cCue_len O1.out) Hn0.out (by omega) HW0.out).mono ?_
  rw [HX.out]
  rintro e w3 ⟨A2, c2, rfl, g3, o2⟩
  have O1 := Lib.hid (own_G O1.out g3)
  replace cb0_0 := g3.cell cb0_0
  replace cb0_1 := g3.cell cb0_1
  replace cb0_2 := g3.cell cb0_2
  replace cb0_3 := g3.cell cb0_3
  have G3 := Lib.hid (G2.out.trans g3)
  have s3 := g3.size
  clear g3
  have O2 := Lib.hid o2
  clear o2
  have B2 := Lib.hid (own_bd O2.out)
  dsimp only
  go_wp2_with fail
  refine (KT.out _ G3.out).mono ?_
  rintro e w4 ⟨b3, rfl, hb3, hl3, g4, o3⟩
  have O1 := Lib.hid (own_G O1.out g4)
  have O2 := Lib.hid (own_G O2.out g4)
  replace cb0_0 := g4.cell cb0_0
  replace cb0_1 := g4.cell cb0_1
  replace cb0_2 := g4.cell cb0_2
  replace cb0_3 := g4.cell cb0_3
  have G4 := Lib.hid (G3.out.trans g4)
  have s4 := g4.size
  clear g4
  have O3 := Lib.hid o3
  clear o3
  have B3 := Lib.hid (own_bd O3.out)
  dsimp only
  have gx := (G.refl w4).alloc (.cells #[.slice (some ⟨b3, 0, none⟩) n0 n0, .int .i64 t0, .int .i64 r0, .bool p0] 29)
  have bs_cb6 : (w4.alloc (.cells #[.slice (some ⟨b3, 0, none⟩) n0 n0, .int .i64 t0, .int .i64 r0, .bool p0] 29)).heap.size = w4.heap.size + 1 := by simp
  have cb6_0 : (w4.alloc (.cells #[.slice (some ⟨b3, 0, none⟩) n0 n0, .int .i64 t0, .int .i64 r0, .bool p0] 29)).cell? ⟨w4.heap.size, 0, none⟩ = some (.slice (some ⟨b3, 0, none⟩) n0 n0) := (World.cell?_alloc_at _ _ _ 0 rfl).trans rfl
  have cb6_1 : (w4.alloc (.cells #[.slice (some ⟨b3, 0, none⟩) n0 n0, .int .i64 t0, .int .i64 r0, .bool p0] 29)).cell? ⟨w4.heap.size, 1, none⟩ = some (.int .i64 t0) := (World.cell?_alloc_at _ _ _ 1 rfl).trans rfl
  have cb6_2 : (w4.alloc (.cells #[.slice (some ⟨b3, 0, none⟩) n0 n0, .int .i64 t0, .int .i64 r0, .bool p0] 29)).cell? ⟨w4.heap.size, 2, none⟩ = some (.int .i64 r0) := (World.cell?_alloc_at _ _ _ 2 rfl).trans rfl
  have cb6_3 : (w4.alloc (.cells #[.slice (some ⟨b3, 0, none⟩) n0 n0, .int .i64 t0, .int .i64 r0, .bool p0] 29)).cell? ⟨w4.heap.size, 3, none⟩ = some (.bool p0) := (World.cell?_alloc_at _ _ _ 3 rfl).trans rfl
  have O1 := Lib.hid (own_G O1.out gx)
  have O2 := Lib.hid (own_G O2.out gx)
  have O3 := Lib.hid (own_G O3.out gx)
  replace cb0_0 := gx.cell cb0_0
  replace cb0_1 := gx.cell cb0_1
  replace cb0_2 := gx.cell cb0_2
  replace cb0_3 := gx.cell cb0_3
  have GX_cb6 := Lib.hid (G4.out.trans gx)
  clear gx
  go_wp2_with fail
  refine (iLevelsOf_any _ n0 _ t0 r0 p0 L0 _ (rd_own (by decide) cCue_len O3.out) Hn0.out (by omega) (Nat.le_refl _) HW0.out).mono ?_
  rw [HX.out]
  rintro e w5 ⟨A4, c4, rfl, g5, o4⟩
  have O1 := Lib.hid (own_G O1.out g5)
  have O2 := Lib.hid (own_G O2.out g5)
  have O3 := Lib.hid (own_G O3.out g5)
  replace cb0_0 := g5.cell cb0_0
  replace cb0_1 := g5.cell cb0_1
  replace cb0_2 := g5.cell cb0_2
  replace cb0_3 := g5.cell cb0_3
  replace cb6_0 := g5.cell cb6_0
  replace cb6_1 := g5.cell cb6_1
  replace cb6_2 := g5.cell cb6_2
  replace cb6_3 := g5.cell cb6_3
  have G5 := Lib.hid (GX_cb6.out.trans g5)
  have s5 := g5.size
  clear g5
  have O4 := Lib.hid o4
  clear o4
  have B4 := Lib.hid (own_bd O4.out)
  dsimp only
  go_wp2_with fail
  refine (eqLevelS_same _ _ R.1.length _ _ R.1 _ (rd_own (by decide) cLevel_len O4.out) (rd_own (by decide) cLevel_len O2.out) rfl (by omega)).mono ?_
  rintro e w6 ⟨rfl, g6⟩
  have O1 := Lib.hid (own_G O1.out g6)
  have O2 := Lib.hid (own_G O2.out g6)
  have O3 := Lib.hid (own_G O3.out g6)
  have O4 := Lib.hid (own_G O4.out g6)
  replace cb0_0 := g6.cell cb0_0
  replace cb0_1 := g6.cell cb0_1
  replace cb0_2 := g6.cell cb0_2
  replace cb0_3 := g6.cell cb0_3
  replace cb6_0 := g6.cell cb6_0
  replace cb6_1 := g6.cell cb6_1
  replace cb6_2 := g6.cell cb6_2
  replace cb6_3 := g6.cell cb6_3
  have G6 := Lib.hid (G5.out.trans g6)
  have s6 := g6.size
  clear g6
  dsimp only
  go_wp2_with fail
  go_region_held3 (fun w' => w'.cell? ⟨w.heap.size, 0, none⟩ = some (.slice A0 n0 c0) ∧ w'.cell? ⟨w.heap.size, 1, none⟩ = some (.int .i64 t0) ∧ w'.cell? ⟨w.heap.size, 2, none⟩ = some (.int .i64 r0) ∧ w'.cell? ⟨w.heap.size, 3, none⟩ = some (.bool p0) ∧ w'.cell? ⟨w4.heap.size, 0, none⟩ = some (.slice (some ⟨b3, 0, none⟩) n0 n0) ∧ w'.cell? ⟨w4.heap.size, 1, none⟩ = some (.int .i64 t0) ∧ w'.cell? ⟨w4.heap.size, 2, none⟩ = some (.int .i64 r0) ∧ w'.cell? ⟨w4.heap.size, 3, none⟩ = some (.bool p0)) (first | go_keep | exact ⟨cb0_0, cb0_1, cb0_2, cb0_3, cb6_0, cb6_1, cb6_2, cb6_3⟩) (first | (go_at_call 16; refine (KT.out _ ?hq).mono ?_; (case hq => exact G6.out.drew); rintro e w7 ⟨b5, rfl, hb5, hl5, g7, o5⟩; have O1 := Lib.hid (own_G (w := w6.drew) O1.out g7); have O2 := Lib.hid (own_G (w := w6.drew) O2.out g7); have O3 := Lib.hid (own_G (w := w6.drew) O3.out g7); have O4 := Lib.hid (own_G (w := w6.drew) O4.out g7); replace cb0_0 := g7.cell cb0_0; replace cb0_1 := g7.cell cb0_1; replace cb0_2 := g7.cell cb0_2; replace cb0_3 := g7.cell cb0_3; replace cb6_0 := g7.cell cb6_0; replace cb6_1 := g7.cell cb6_1; replace cb6_2 := g7.cell cb6_2; replace cb6_3 := g7.cell cb6_3; have O5 := Lib.hid o5; clear o5; have s7 : w6.heap.size ≤ w7.heap.size := g7.size; have G7 := Lib.hid (G6.out.drew.trans g7); clear g7) | (go_at_call 18; refine (eqPlayer_same _ _ n0 _ _ t0 r0 p0 L0 _ (rd_own (by decide) cCue_len O3.out) (rd_own (by decide) cCue_len O5.out) Hn0.out (by omega)).mono ?_; rintro e w8 ⟨rfl, g8⟩; have O1 := Lib.hid (own_G O1.out g8); have O2 := Lib.hid (own_G O2.out g8); have O3 := Lib.hid (own_G O3.out g8); have O4 := Lib.hid (own_G O4.out g8); replace cb0_0 := g8.cell cb0_0; replace cb0_1 := g8.cell cb0_1; replace cb0_2 := g8.cell cb0_2; replace cb0_3 := g8.cell cb0_3; replace cb6_0 := g8.cell cb6_0; replace cb6_1 := g8.cell cb6_1; replace cb6_2 := g8.cell cb6_2; replace cb6_3 := g8.cell cb6_3; have s8 := g8.size; have G8 := Lib.hid (G7.out.trans g8); clear g8))
  go_wp2_with fail
  refine (markPlayer_any _ _ n0 _ t0 r0 p0 _ 1 _ O3.out (by omega) (by omega) (by omega)).mono ?_
  rintro e w9 ⟨rfl, g9, o3⟩
  have O1 := Lib.hid (own_Gx O1.out g9 (own_ne (fun a b ha hb => by have h1 := B1.out a ha; have h2 := B3.out b hb; omega)))
  have O2 := Lib.hid (own_Gx O2.out g9 (own_ne (fun a b ha hb => by have h1 := B2.out a ha; have h2 := B3.out b hb; omega)))
  have O4 := Lib.hid (own_Gx O4.out g9 (own_ne (fun a b ha hb => by have h1 := B4.out a ha; have h2 := B3.out b hb; omega)))
  replace cb0_0 := Gx.cell g9 cb0_0 (map_ne (fun a ha => by have h1 := B3.out a ha; simp only; omega))
  replace cb0_1 := Gx.cell g9 cb0_1 (map_ne (fun a ha => by have h1 := B3.out a ha; simp only; omega))
  replace cb0_2 := Gx.cell g9 cb0_2 (map_ne (fun a ha => by have h1 := B3.out a ha; simp only; omega))
  replace cb0_3 := Gx.cell g9 cb0_3 (map_ne (fun a ha => by have h1 := B3.out a ha; simp only; omega))
  replace cb6_0 := Gx.cell g9 cb6_0 (map_ne (fun a ha => by have h1 := B3.out a ha; simp only; omega))
  replace cb6_1 := Gx.cell g9 cb6_1 (map_ne (fun a ha => by have h1 := B3.out a ha; simp only; omega))
  replace cb6_2 := Gx.cell g9 cb6_2 (map_ne (fun a ha => by have h1 := B3.out a ha; simp only; omega))
  replace cb6_3 := Gx.cell g9 cb6_3 (map_ne (fun a ha => by have h1 := B3.out a ha; simp only; omega))
  have s9 := World.grownBy.size g9
  have G9 := Lib.hid (Gx.G G8.out g9 (map_block (fun a ha => by have h1 := B3.out a ha; omega)))
  have O3 := Lib.hid o3
  clear g9 o3
  dsimp only
  go_wp2_with fail
  refine (eqLevelS_same _ _ R.1.length _ _ R.1 _ (rd_own (by decide) cLevel_len O4.out) (rd_own (by decide) cLevel_len O2.out) rfl (by omega)).mono ?_
  rintro e w10 ⟨rfl, g10⟩
  have O1 := Lib.hid (own_G O1.out g10)
  have O2 := Lib.hid (own_G O2.out g10)
  have O3 := Lib.hid (own_G O3.out g10)
  have O4 := Lib.hid (own_G O4.out g10)
  replace cb0_0 := g10.cell cb0_0
  replace cb0_1 := g10.cell cb0_1
  replace cb0_2 := g10.cell cb0_2
  replace cb0_3 := g10.cell cb0_3
  replace cb6_0 := g10.cell cb6_0
  replace cb6_1 := g10.cell cb6_1
  replace cb6_2 := g10.cell cb6_2
  replace cb6_3 := g10.cell cb6_3
  have G10 := Lib.hid (G9.out.trans g10)
  have s10 := g10.size
  clear g10
  dsimp only
  go_wp2_with fail
  refine (markLevelS_any _ _ R.1.length _ _ 1 _ O4.out (by omega) (by omega) (by omega)).mono ?_
  rintro e w11 ⟨rfl, g11, o4⟩
  have O1 := Lib.hid (own_Gx O1.out g11 (own_ne (fun a b ha hb => by have h1 := B1.out a ha; have h2 := B4.out b hb; omega)))
  have O2 := Lib.hid (own_Gx O2.out g11 (own_ne (fun a b ha hb => by have h1 := B2.out a ha; have h2 := B4.out b hb; omega)))
  have O3 := Lib.hid (own_Gx O3.out g11 (own_ne (fun a b ha hb => by have h1 := B3.out a ha; have h2 := B4.out b hb; omega)))
  replace cb0_0 := Gx.cell g11 cb0_0 (map_ne (fun a ha => by have h1 := B4.out a ha; simp only; omega))
  replace cb0_1 := Gx.cell g11 cb0_1 (map_ne (fun a ha => by have h1 := B4.out a ha; simp only; omega))
  replace cb0_2 := Gx.cell g11 cb0_2 (map_ne (fun a ha => by have h1 := B4.out a ha; simp only; omega))
  replace cb0_3 := Gx.cell g11 cb0_3 (map_ne (fun a ha => by have h1 := B4.out a ha; simp only; omega))
  replace cb6_0 := Gx.cell g11 cb6_0 (map_ne (fun a ha => by have h1 := B4.out a ha; simp only; omega))
  replace cb6_1 := Gx.cell g11 cb6_1 (map_ne (fun a ha => by have h1 := B4.out a ha; simp only; omega))
  replace cb6_2 := Gx.cell g11 cb6_2 (map_ne (fun a ha => by have h1 := B4.out a ha; simp only; omega))
  replace cb6_3 := Gx.cell g11 cb6_3 (map_ne (fun a ha => by have h1 := B4.out a ha; simp only; omega))
  have s11 := World.grownBy.size g11
  have G11 := Lib.hid (Gx.G G10.out g11 (map_block (fun a ha => by have h1 := B4.out a ha; omega)))
  have O4 := Lib.hid o4
  clear g11 o4
  dsimp only
  go_wp2_with fail
  refine (heldLevelS_any _ R.1.length _ 1 _ (rd_own (by decide) cLevel_len O4.out) (by omega) (by omega) (by omega)).mono ?_
  rintro e w12 ⟨rfl, g12⟩
  have O1 := Lib.hid (own_G O1.out g12)
  have O2 := Lib.hid (own_G O2.out g12)
  have O3 := Lib.hid (own_G O3.out g12)
  have O4 := Lib.hid (own_G O4.out g12)
  replace cb0_0 := g12.cell cb0_0
  replace cb0_1 := g12.cell cb0_1
  replace cb0_2 := g12.cell cb0_2
  replace cb0_3 := g12.cell cb0_3
  replace cb6_0 := g12.cell cb6_0
  replace cb6_1 := g12.cell cb6_1
  replace cb6_2 := g12.cell cb6_2
  replace cb6_3 := g12.cell cb6_3
  have G12 := Lib.hid (G11.out.trans g12)
  have s12 := g12.size
  clear g12
  dsimp only
  go_wp2_with fail
  refine (KT.out _ G12.out).mono ?_
  rintro e w13 ⟨b6, rfl, hb6, hl6, g13, o6⟩
  have O1 := Lib.hid (own_G O1.out g13)
  have O2 := Lib.hid (own_G O2.out g13)
  have O3 := Lib.hid (own_G O3.out g13)
  have O4 := Lib.hid (own_G O4.out g13)
  replace cb0_0 := g13.cell cb0_0
  replace cb0_1 := g13.cell cb0_1
  replace cb0_2 := g13.cell cb0_2
  replace cb0_3 := g13.cell cb0_3
  replace cb6_0 := g13.cell cb6_0
  replace cb6_1 := g13.cell cb6_1
  replace cb6_2 := g13.cell cb6_2
  replace cb6_3 := g13.cell cb6_3
  have G13 := Lib.hid (G12.out.trans g13)
  have s13 := g13.size
  clear g13
  have O6 := Lib.hid o6
  clear o6
  have B6 := Lib.hid (own_bd O6.out)
  dsimp only
  go_wp2_with fail
  refine (iLevelsOf_any _ n0 _ t0 r0 p0 L0 _ (rd_own (by decide) cCue_len O6.out) Hn0.out (by omega) (Nat.le_refl _) HW0.out).mono ?_
  rw [HX.out]
  rintro e w14 ⟨A7, c7, rfl, g14, o7⟩
  have O1 := Lib.hid (own_G O1.out g14)
  have O2 := Lib.hid (own_G O2.out g14)
  have O3 := Lib.hid (own_G O3.out g14)
  have O4 := Lib.hid (own_G O4.out g14)
  have O6 := Lib.hid (own_G O6.out g14)
  replace cb0_0 := g14.cell cb0_0
  replace cb0_1 := g14.cell cb0_1
  replace cb0_2 := g14.cell cb0_2
  replace cb0_3 := g14.cell cb0_3
  replace cb6_0 := g14.cell cb6_0
  replace cb6_1 := g14.cell cb6_1
  replace cb6_2 := g14.cell cb6_2
  replace cb6_3 := g14.cell cb6_3
  have G14 := Lib.hid (G13.out.trans g14)
  have s14 := g14.size
  clear g14
  have O7 := Lib.hid o7
  clear o7
  have B7 := Lib.hid (own_bd O7.out)
  dsimp only
  go_wp2_with fail
  refine (eqLevelS_same _ _ R.1.length _ _ R.1 _ (rd_own (by decide) cLevel_len O7.out) (rd_own (by decide) cLevel_len O2.out) rfl (by omega)).mono ?_
  rintro e w15 ⟨rfl, g15⟩
  have O1 := Lib.hid (own_G O1.out g15)
  have O2 := Lib.hid (own_G O2.out g15)
  have O3 := Lib.hid (own_G O3.out g15)
  have O4 := Lib.hid (own_G O4.out g15)
  have O6 := Lib.hid (own_G O6.out g15)
  have O7 := Lib.hid (own_G O7.out g15)
  replace cb0_0 := g15.cell cb0_0
  replace cb0_1 := g15.cell cb0_1
  replace cb0_2 := g15.cell cb0_2
  replace cb0_3 := g15.cell cb0_3
  replace cb6_0 := g15.cell cb6_0
  replace cb6_1 := g15.cell cb6_1
  replace cb6_2 := g15.cell cb6_2
  replace cb6_3 := g15.cell cb6_3
  have G15 := Lib.hid (G14.out.trans g15)
  have s15 := g15.size
  clear g15
  dsimp only
  go_wp2_with fail
  refine (heldLevelS_any _ R.1.length _ 1 _ (rd_own (by decide) cLevel_len O4.out) (by omega) (by omega) (by omega)).mono ?_
  rintro e w16 ⟨rfl, g16⟩
  have O1 := Lib.hid (own_G O1.out g16)
  have O2 := Lib.hid (own_G O2.out g16)
  have O3 := Lib.hid (own_G O3.out g16)
  have O4 := Lib.hid (own_G O4.out g16)
  have O6 := Lib.hid (own_G O6.out g16)
  have O7 := Lib.hid (own_G O7.out g16)
  replace cb0_0 := g16.cell cb0_0
  replace cb0_1 := g16.cell cb0_1
  replace cb0_2 := g16.cell cb0_2
  replace cb0_3 := g16.cell cb0_3
  replace cb6_0 := g16.cell cb6_0
  replace cb6_1 := g16.cell cb6_1
  replace cb6_2 := g16.cell cb6_2
  replace cb6_3 := g16.cell cb6_3
  have G16 := Lib.hid (G15.out.trans g16)
  have s16 := g16.size
  clear g16
  dsimp only
  go_wp2
  go_ret
  exact ⟨rfl, G16.out⟩
end Go.Proofs.Ytdpmnmhblnjhiaa
