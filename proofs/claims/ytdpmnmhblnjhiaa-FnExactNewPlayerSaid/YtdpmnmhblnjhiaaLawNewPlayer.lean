/-
  The law of NewPlayer, walked.
-/
import Derived.Test.YtdpmnmhblnjhiaaNewPlayer
import Derived.Test.YtdpmnmhblnjhiaaOpPlayer
import Derived.Test.YtdpmnmhblnjhiaaMarkPl
namespace Go.Proofs.Ytdpmnmhblnjhiaa
open Go.RowKit
attribute [local go_sem ↓] Go.wp_at_zero Go.wp_at_succ

set_option maxRecDepth 20000 in
set_option maxHeartbeats 8000000 in
theorem lawNewPlayer (A0 : Option Addr) (n0 c0 : Nat) (L0 : List SCue) (w : World) (h0 : ArgCue w A0 n0 c0 L0) :
    Calls Try.prog 7 #[.slice A0 n0 c0] w fun e w' => e = .returned (.bool true) ∧ Below w.heap.size w w' := by
  obtain ⟨hm, hn, hr, hw⟩ := h0
  have HW0 := Lib.hid hw
  have Hn0 := Lib.hid hn
  have HR0 := Lib.hid hr
  unfold maxLen at hm
  have B0 := Lib.hid (G.refl w)
  have q0 := tot_nonneg szCue szCue_nonneg L0
  have HQ : Hid (n0 ≤ maxLen) := Lib.hid (by unfold maxLen; omega)
  have KS := Lib.hid (fun (W : World) (g : G w W) => szCueS_any A0 n0 c0 L0 1048576 W (hr.G g) hn hw HQ.out (by omega) (by omega))
  clear hn hr hw
  by_cases q : (1048576 : Int) - n0 - tot szCue L0 < 0
  case pos =>
    have HZ := Lib.hid (szR_neg q)
    go_enter Try.func7, Try.ntmps7
    go_wp2_with fail
    refine (KS.out _ B0.out).mono ?_
    rintro e w1 ⟨rfl, g1⟩
    have G1 := Lib.hid (B0.out.trans g1)
    have s1 := g1.size
    clear g1
    rw [HZ.out]
    dsimp only
    go_wp2
    go_ret
    exact ⟨rfl, G1.out⟩
  have HZ := Lib.hid (szR_pos (y := (1048576 : Int) - n0 - tot szCue L0) (by omega))
  have hb : n0 ≤ 1048576 := by omega
  obtain ⟨R, HX⟩ : ∃ R, Hid (newR L0 = R) := ⟨_, rfl⟩
  have hRb : R.L.length ≤ 1048576 := by rw [← HX.out]; exact Nat.le_trans (newR_len L0) (by rw [Hn0.out]; exact hb)
  have KT := Lib.hid (fun (W : World) (g : G w W) => toCueS_any A0 n0 c0 L0 W (HR0.out.G g) Hn0.out hb)
  go_enter Try.func7, Try.ntmps7
  go_wp2_with fail
  refine (KS.out _ B0.out).mono ?_
  rintro e w1 ⟨rfl, g1⟩
  have G1 := Lib.hid (B0.out.trans g1)
  have s1 := g1.size
  clear g1
  rw [HZ.out]
  dsimp only
  go_wp2_with fail
  refine (KT.out _ G1.out).mono ?_
  rintro e w2 ⟨b1, rfl, hb1, hl1, g2, o1⟩
  have G2 := Lib.hid (G1.out.trans g2)
  have s2 := g2.size
  clear g2
  have O1 := Lib.hid o1
  clear o1
  have B1 := Lib.hid (own_bd O1.out)
  dsimp only
  go_wp2_with fail
  refine (sNewPlayer_any _ n0 _ L0 _ (rd_own (by decide) cCue_len O1.out) Hn0.out (by omega) HW0.out).mono ?_
  rw [HX.out]
  rintro e w3 ⟨A2, c2, rfl, g3, o2⟩
  have O1 := Lib.hid (own_G O1.out g3)
  have G3 := Lib.hid (G2.out.trans g3)
  have s3 := g3.size
  clear g3
  have O2 := Lib.hid o2
  clear o2
  have B2 := Lib.hid (own_bd O2.out)
  dsimp only
  have gx := (G.refl w3).alloc (.cells #[.slice A2 R.L.length c2, .int .i64 R.t, .int .i64 R.r, .bool R.p] 29)
  have bs_cb4 : (w3.alloc (.cells #[.slice A2 R.L.length c2, .int .i64 R.t, .int .i64 R.r, .bool R.p] 29)).heap.size = w3.heap.size + 1 := by simp
  have cb4_0 : (w3.alloc (.cells #[.slice A2 R.L.length c2, .int .i64 R.t, .int .i64 R.r, .bool R.p] 29)).cell? ⟨w3.heap.size, 0, none⟩ = some (.slice A2 R.L.length c2) := (World.cell?_alloc_at _ _ _ 0 rfl).trans rfl
  have cb4_1 : (w3.alloc (.cells #[.slice A2 R.L.length c2, .int .i64 R.t, .int .i64 R.r, .bool R.p] 29)).cell? ⟨w3.heap.size, 1, none⟩ = some (.int .i64 R.t) := (World.cell?_alloc_at _ _ _ 1 rfl).trans rfl
  have cb4_2 : (w3.alloc (.cells #[.slice A2 R.L.length c2, .int .i64 R.t, .int .i64 R.r, .bool R.p] 29)).cell? ⟨w3.heap.size, 2, none⟩ = some (.int .i64 R.r) := (World.cell?_alloc_at _ _ _ 2 rfl).trans rfl
  have cb4_3 : (w3.alloc (.cells #[.slice A2 R.L.length c2, .int .i64 R.t, .int .i64 R.r, .bool R.p] 29)).cell? ⟨w3.heap.size, 3, none⟩ = some (.bool R.p) := (World.cell?_alloc_at _ _ _ 3 rfl).trans rfl
  have O1 := Lib.hid (own_G O1.out gx)
  have O2 := Lib.hid (own_G O2.out gx)
  have GX_cb4 := Lib.hid (G3.out.trans gx)
  clear gx
  go_wp2_with fail
  refine (KT.out _ GX_cb4.out).mono ?_
  rintro e w4 ⟨b3, rfl, hb3, hl3, g4, o3⟩
  have O1 := Lib.hid (own_G O1.out g4)
  have O2 := Lib.hid (own_G O2.out g4)
  replace cb4_0 := g4.cell cb4_0
  replace cb4_1 := g4.cell cb4_1
  replace cb4_2 := g4.cell cb4_2
  replace cb4_3 := g4.cell cb4_3
  have G4 := Lib.hid (GX_cb4.out.trans g4)
  have s4 := g4.size
  clear g4
  have O3 := Lib.hid o3
  clear o3
  have B3 := Lib.hid (own_bd O3.out)
  dsimp only
  go_wp2_with fail
  refine (iNewPlayer_any _ n0 _ L0 _ (rd_own (by decide) cCue_len O3.out) Hn0.out (by omega) (Nat.le_refl _) HW0.out).mono ?_
  rw [HX.out]
  rintro e w5 ⟨A4, c4, rfl, g5, o4⟩
  have O1 := Lib.hid (own_G O1.out g5)
  have O2 := Lib.hid (own_G O2.out g5)
  have O3 := Lib.hid (own_G O3.out g5)
  replace cb4_0 := g5.cell cb4_0
  replace cb4_1 := g5.cell cb4_1
  replace cb4_2 := g5.cell cb4_2
  replace cb4_3 := g5.cell cb4_3
  have G5 := Lib.hid (G4.out.trans g5)
  have s5 := g5.size
  clear g5
  have O4 := Lib.hid o4
  clear o4
  have B4 := Lib.hid (own_bd O4.out)
  dsimp only
  have gx := (G.refl w5).alloc (.cells #[.slice A4 R.L.length c4, .int .i64 R.t, .int .i64 R.r, .bool R.p] 29)
  have bs_cb7 : (w5.alloc (.cells #[.slice A4 R.L.length c4, .int .i64 R.t, .int .i64 R.r, .bool R.p] 29)).heap.size = w5.heap.size + 1 := by simp
  have cb7_0 : (w5.alloc (.cells #[.slice A4 R.L.length c4, .int .i64 R.t, .int .i64 R.r, .bool R.p] 29)).cell? ⟨w5.heap.size, 0, none⟩ = some (.slice A4 R.L.length c4) := (World.cell?_alloc_at _ _ _ 0 rfl).trans rfl
  have cb7_1 : (w5.alloc (.cells #[.slice A4 R.L.length c4, .int .i64 R.t, .int .i64 R.r, .bool R.p] 29)).cell? ⟨w5.heap.size, 1, none⟩ = some (.int .i64 R.t) := (World.cell?_alloc_at _ _ _ 1 rfl).trans rfl
  have cb7_2 : (w5.alloc (.cells #[.slice A4 R.L.length c4, .int .i64 R.t, .int .i64 R.r, .bool R.p] 29)).cell? ⟨w5.heap.size, 2, none⟩ = some (.int .i64 R.r) := (World.cell?_alloc_at _ _ _ 2 rfl).trans rfl
  have cb7_3 : (w5.alloc (.cells #[.slice A4 R.L.length c4, .int .i64 R.t, .int .i64 R.r, .bool R.p] 29)).cell? ⟨w5.heap.size, 3, none⟩ = some (.bool R.p) := (World.cell?_alloc_at _ _ _ 3 rfl).trans rfl
  have O1 := Lib.hid (own_G O1.out gx)
  have O2 := Lib.hid (own_G O2.out gx)
  have O3 := Lib.hid (own_G O3.out gx)
  have O4 := Lib.hid (own_G O4.out gx)
  replace cb4_0 := gx.cell cb4_0
  replace cb4_1 := gx.cell cb4_1
  replace cb4_2 := gx.cell cb4_2
  replace cb4_3 := gx.cell cb4_3
  have GX_cb7 := Lib.hid (G5.out.trans gx)
  clear gx
  go_wp2_with fail
  refine (eqPlayer_same _ _ R.L.length _ _ R.t R.r R.p R.L _ (rd_own (by decide) cCue_len O4.out) (rd_own (by decide) cCue_len O2.out) rfl (by omega)).mono ?_
  rintro e w6 ⟨rfl, g6⟩
  have O1 := Lib.hid (own_G O1.out g6)
  have O2 := Lib.hid (own_G O2.out g6)
  have O3 := Lib.hid (own_G O3.out g6)
  have O4 := Lib.hid (own_G O4.out g6)
  replace cb4_0 := g6.cell cb4_0
  replace cb4_1 := g6.cell cb4_1
  replace cb4_2 := g6.cell cb4_2
  replace cb4_3 := g6.cell cb4_3
  replace cb7_0 := g6.cell cb7_0
  replace cb7_1 := g6.cell cb7_1
  replace cb7_2 := g6.cell cb7_2
  replace cb7_3 := g6.cell cb7_3
  have G6 := Lib.hid (GX_cb7.out.trans g6)
  have s6 := g6.size
  clear g6
  dsimp only
  go_wp2_with fail
  refine (KT.out _ G6.out).mono ?_
  rintro e w7 ⟨b5, rfl, hb5, hl5, g7, o5⟩
  have O1 := Lib.hid (own_G O1.out g7)
  have O2 := Lib.hid (own_G O2.out g7)
  have O3 := Lib.hid (own_G O3.out g7)
  have O4 := Lib.hid (own_G O4.out g7)
  replace cb4_0 := g7.cell cb4_0
  replace cb4_1 := g7.cell cb4_1
  replace cb4_2 := g7.cell cb4_2
  replace cb4_3 := g7.cell cb4_3
  replace cb7_0 := g7.cell cb7_0
  replace cb7_1 := g7.cell cb7_1
  replace cb7_2 := g7.cell cb7_2
  replace cb7_3 := g7.cell cb7_3
  have G7 := Lib.hid (G6.out.trans g7)
  have s7 := g7.size
  clear g7
  have O5 := Lib.hid o5
  clear o5
  have B5 := Lib.hid (own_bd O5.out)
  dsimp only
  go_wp2_with fail
  refine (eqCueS_same _ _ n0 _ _ L0 _ (rd_own (by decide) cCue_len O3.out) (rd_own (by decide) cCue_len O5.out) Hn0.out (by omega)).mono ?_
  rintro e w8 ⟨rfl, g8⟩
  have O1 := Lib.hid (own_G O1.out g8)
  have O2 := Lib.hid (own_G O2.out g8)
  have O3 := Lib.hid (own_G O3.out g8)
  have O4 := Lib.hid (own_G O4.out g8)
  have O5 := Lib.hid (own_G O5.out g8)
  replace cb4_0 := g8.cell cb4_0
  replace cb4_1 := g8.cell cb4_1
  replace cb4_2 := g8.cell cb4_2
  replace cb4_3 := g8.cell cb4_3
  replace cb7_0 := g8.cell cb7_0
  replace cb7_1 := g8.cell cb7_1
  replace cb7_2 := g8.cell cb7_2
  replace cb7_3 := g8.cell cb7_3
  have G8 := Lib.hid (G7.out.trans g8)
  have s8 := g8.size
  clear g8
  dsimp only
  go_wp2_with fail
  refine (markCueS_any _ _ n0 _ _ 1 _ O3.out (by omega) (by omega) (by omega)).mono ?_
  rintro e w9 ⟨rfl, g9, o3⟩
  have O1 := Lib.hid (own_Gx O1.out g9 (own_ne (fun a b ha hb => by have h1 := B1.out a ha; have h2 := B3.out b hb; omega)))
  have O2 := Lib.hid (own_Gx O2.out g9 (own_ne (fun a b ha hb => by have h1 := B2.out a ha; have h2 := B3.out b hb; omega)))
  have O4 := Lib.hid (own_Gx O4.out g9 (own_ne (fun a b ha hb => by have h1 := B4.out a ha; have h2 := B3.out b hb; omega)))
  have O5 := Lib.hid (own_Gx O5.out g9 (own_ne (fun a b ha hb => by have h1 := B5.out a ha; have h2 := B3.out b hb; omega)))
  replace cb4_0 := Gx.cell g9 cb4_0 (map_ne (fun a ha => by have h1 := B3.out a ha; simp only; omega))
  replace cb4_1 := Gx.cell g9 cb4_1 (map_ne (fun a ha => by have h1 := B3.out a ha; simp only; omega))
  replace cb4_2 := Gx.cell g9 cb4_2 (map_ne (fun a ha => by have h1 := B3.out a ha; simp only; omega))
  replace cb4_3 := Gx.cell g9 cb4_3 (map_ne (fun a ha => by have h1 := B3.out a ha; simp only; omega))
  replace cb7_0 := Gx.cell g9 cb7_0 (map_ne (fun a ha => by have h1 := B3.out a ha; simp only; omega))
  replace cb7_1 := Gx.cell g9 cb7_1 (map_ne (fun a ha => by have h1 := B3.out a ha; simp only; omega))
  replace cb7_2 := Gx.cell g9 cb7_2 (map_ne (fun a ha => by have h1 := B3.out a ha; simp only; omega))
  replace cb7_3 := Gx.cell g9 cb7_3 (map_ne (fun a ha => by have h1 := B3.out a ha; simp only; omega))
  have s9 := World.grownBy.size g9
  have G9 := Lib.hid (Gx.G G8.out g9 (map_block (fun a ha => by have h1 := B3.out a ha; omega)))
  have O3 := Lib.hid o3
  clear g9 o3
  dsimp only
  go_wp2_with fail
  refine (eqPlayer_same _ _ R.L.length _ _ R.t R.r R.p R.L _ (rd_own (by decide) cCue_len O4.out) (rd_own (by decide) cCue_len O2.out) rfl (by omega)).mono ?_
  rintro e w10 ⟨rfl, g10⟩
  have O1 := Lib.hid (own_G O1.out g10)
  have O2 := Lib.hid (own_G O2.out g10)
  have O3 := Lib.hid (own_G O3.out g10)
  have O4 := Lib.hid (own_G O4.out g10)
  have O5 := Lib.hid (own_G O5.out g10)
  replace cb4_0 := g10.cell cb4_0
  replace cb4_1 := g10.cell cb4_1
  replace cb4_2 := g10.cell cb4_2
  replace cb4_3 := g10.cell cb4_3
  replace cb7_0 := g10.cell cb7_0
  replace cb7_1 := g10.cell cb7_1
  replace cb7_2 := g10.cell cb7_2
  replace cb7_3 := g10.cell cb7_3
  have G10 := Lib.hid (G9.out.trans g10)
  have s10 := g10.size
  clear g10
  dsimp only
  go_wp2_with fail
  refine (markPlayer_any _ _ R.L.length _ R.t R.r R.p _ 1 _ O4.out (by omega) (by omega) (by omega)).mono ?_
  rintro e w11 ⟨rfl, g11, o4⟩
  have O1 := Lib.hid (own_Gx O1.out g11 (own_ne (fun a b ha hb => by have h1 := B1.out a ha; have h2 := B4.out b hb; omega)))
  have O2 := Lib.hid (own_Gx O2.out g11 (own_ne (fun a b ha hb => by have h1 := B2.out a ha; have h2 := B4.out b hb; omega)))
  have O3 := Lib.hid (own_Gx O3.out g11 (own_ne (fun a b ha hb => by have h1 := B3.out a ha; have h2 := B4.out b hb; omega)))
  have O5 := Lib.hid (own_Gx O5.out g11 (own_ne (fun a b ha hb => by have h1 := B5.out a ha; have h2 := B4.out b hb; omega)))
  replace cb4_0 := Gx.cell g11 cb4_0 (map_ne (fun a ha => by have h1 := B4.out a ha; simp only; omega))
  replace cb4_1 := Gx.cell g11 cb4_1 (map_ne (fun a ha => by have h1 := B4.out a ha; simp only; omega))
  replace cb4_2 := Gx.cell g11 cb4_2 (map_ne (fun a ha => by have h1 := B4.out a ha; simp only; omega))
  replace cb4_3 := Gx.cell g11 cb4_3 (map_ne (fun a ha => by have h1 := B4.out a ha; simp only; omega))
  replace cb7_0 := Gx.cell g11 cb7_0 (map_ne (fun a ha => by have h1 := B4.out a ha; simp only; omega))
  replace cb7_1 := Gx.cell g11 cb7_1 (map_ne (fun a ha => by have h1 := B4.out a ha; simp only; omega))
  replace cb7_2 := Gx.cell g11 cb7_2 (map_ne (fun a ha => by have h1 := B4.out a ha; simp only; omega))
  replace cb7_3 := Gx.cell g11 cb7_3 (map_ne (fun a ha => by have h1 := B4.out a ha; simp only; omega))
  have s11 := World.grownBy.size g11
  have G11 := Lib.hid (Gx.G G10.out g11 (map_block (fun a ha => by have h1 := B4.out a ha; omega)))
  have O4 := Lib.hid o4
  clear g11 o4
  dsimp only
  go_wp2_with fail
  refine (heldPlayer_any _ R.L.length _ R.t R.r R.p 1 _ (rd_own (by decide) cCue_len O4.out) (by omega) (by omega) (by omega)).mono ?_
  rintro e w12 ⟨rfl, g12⟩
  have O1 := Lib.hid (own_G O1.out g12)
  have O2 := Lib.hid (own_G O2.out g12)
  have O3 := Lib.hid (own_G O3.out g12)
  have O4 := Lib.hid (own_G O4.out g12)
  have O5 := Lib.hid (own_G O5.out g12)
  replace cb4_0 := g12.cell cb4_0
  replace cb4_1 := g12.cell cb4_1
  replace cb4_2 := g12.cell cb4_2
  replace cb4_3 := g12.cell cb4_3
  replace cb7_0 := g12.cell cb7_0
  replace cb7_1 := g12.cell cb7_1
  replace cb7_2 := g12.cell cb7_2
  replace cb7_3 := g12.cell cb7_3
  have G12 := Lib.hid (G11.out.trans g12)
  have s12 := g12.size
  clear g12
  dsimp only
  go_wp2_with fail
  refine (KT.out _ G12.out).mono ?_
  rintro e w13 ⟨b6, rfl, hb6, hl6, g13, o6⟩
  have O1 := Lib.hid (own_G O1.out g13)
  have O2 := Lib.hid (own_G O2.out g13)
  have O3 := Lib.hid (own_G O3.out g13)
  have O4 := Lib.hid (own_G O4.out g13)
  have O5 := Lib.hid (own_G O5.out g13)
  replace cb4_0 := g13.cell cb4_0
  replace cb4_1 := g13.cell cb4_1
  replace cb4_2 := g13.cell cb4_2
  replace cb4_3 := g13.cell cb4_3
  replace cb7_0 := g13.cell cb7_0
  replace cb7_1 := g13.cell cb7_1
  replace cb7_2 := g13.cell cb7_2
  replace cb7_3 := g13.cell cb7_3
  have G13 := Lib.hid (G12.out.trans g13)
  have s13 := g13.size
  clear g13
  have O6 := Lib.hid o6
  clear o6
  have B6 := Lib.hid (own_bd O6.out)
  dsimp only
  go_wp2_with fail
  refine (iNewPlayer_any _ n0 _ L0 _ (rd_own (by decide) cCue_len O6.out) Hn0.out (by omega) (Nat.le_refl _) HW0.out).mono ?_
  rw [HX.out]
  rintro e w14 ⟨A7, c7, rfl, g14, o7⟩
  have O1 := Lib.hid (own_G O1.out g14)
  have O2 := Lib.hid (own_G O2.out g14)
  have O3 := Lib.hid (own_G O3.out g14)
  have O4 := Lib.hid (own_G O4.out g14)
  have O5 := Lib.hid (own_G O5.out g14)
  have O6 := Lib.hid (own_G O6.out g14)
  replace cb4_0 := g14.cell cb4_0
  replace cb4_1 := g14.cell cb4_1
  replace cb4_2 := g14.cell cb4_2
  replace cb4_3 := g14.cell cb4_3
  replace cb7_0 := g14.cell cb7_0
  replace cb7_1 := g14.cell cb7_1
  replace cb7_2 := g14.cell cb7_2
  replace cb7_3 := g14.cell cb7_3
  have G14 := Lib.hid (G13.out.trans g14)
  have s14 := g14.size
  clear g14
  have O7 := Lib.hid o7
  clear o7
  have B7 := Lib.hid (own_bd O7.out)
  dsimp only
  have gx := (G.refl w14).alloc (.cells #[.slice A7 R.L.length c7, .int .i64 R.t, .int .i64 R.r, .bool R.p] 29)
  have bs_cb12 : (w14.alloc (.cells #[.slice A7 R.L.length c7, .int .i64 R.t, .int .i64 R.r, .bool R.p] 29)).heap.size = w14.heap.size + 1 := by simp
  have cb12_0 : (w14.alloc (.cells #[.slice A7 R.L.length c7, .int .i64 R.t, .int .i64 R.r, .bool R.p] 29)).cell? ⟨w14.heap.size, 0, none⟩ = some (.slice A7 R.L.length c7) := (World.cell?_alloc_at _ _ _ 0 rfl).trans rfl
  have cb12_1 : (w14.alloc (.cells #[.slice A7 R.L.length c7, .int .i64 R.t, .int .i64 R.r, .bool R.p] 29)).cell? ⟨w14.heap.size, 1, none⟩ = some (.int .i64 R.t) := (World.cell?_alloc_at _ _ _ 1 rfl).trans rfl
  have cb12_2 : (w14.alloc (.cells #[.slice A7 R.L.length c7, .int .i64 R.t, .int .i64 R.r, .bool R.p] 29)).cell? ⟨w14.heap.size, 2, none⟩ = some (.int .i64 R.r) := (World.cell?_alloc_at _ _ _ 2 rfl).trans rfl
  have cb12_3 : (w14.alloc (.cells #[.slice A7 R.L.length c7, .int .i64 R.t, .int .i64 R.r, .bool R.p] 29)).cell? ⟨w14.heap.size, 3, none⟩ = some (.bool R.p) := (World.cell?_alloc_at _ _ _ 3 rfl).trans rfl
  have O1 := Lib.hid (own_G O1.out gx)
  have O2 := Lib.hid (own_G O2.out gx)
  have O3 := Lib.hid (own_G O3.out gx)
  have O4 := Lib.hid (own_G O4.out gx)
  have O5 := Lib.hid (own_G O5.out gx)
  have O6 := Lib.hid (own_G O6.out gx)
  have O7 := Lib.hid (own_G O7.out gx)
  replace cb4_0 := gx.cell cb4_0
  replace cb4_1 := gx.cell cb4_1
  replace cb4_2 := gx.cell cb4_2
  replace cb4_3 := gx.cell cb4_3
  replace cb7_0 := gx.cell cb7_0
  replace cb7_1 := gx.cell cb7_1
  replace cb7_2 := gx.cell cb7_2
  replace cb7_3 := gx.cell cb7_3
  have GX_cb12 := Lib.hid (G14.out.trans gx)
  clear gx
  go_wp2_with fail
  refine (eqPlayer_same _ _ R.L.length _ _ R.t R.r R.p R.L _ (rd_own (by decide) cCue_len O7.out) (rd_own (by decide) cCue_len O2.out) rfl (by omega)).mono ?_
  rintro e w15 ⟨rfl, g15⟩
  have O1 := Lib.hid (own_G O1.out g15)
  have O2 := Lib.hid (own_G O2.out g15)
  have O3 := Lib.hid (own_G O3.out g15)
  have O4 := Lib.hid (own_G O4.out g15)
  have O5 := Lib.hid (own_G O5.out g15)
  have O6 := Lib.hid (own_G O6.out g15)
  have O7 := Lib.hid (own_G O7.out g15)
  replace cb4_0 := g15.cell cb4_0
  replace cb4_1 := g15.cell cb4_1
  replace cb4_2 := g15.cell cb4_2
  replace cb4_3 := g15.cell cb4_3
  replace cb7_0 := g15.cell cb7_0
  replace cb7_1 := g15.cell cb7_1
  replace cb7_2 := g15.cell cb7_2
  replace cb7_3 := g15.cell cb7_3
  replace cb12_0 := g15.cell cb12_0
  replace cb12_1 := g15.cell cb12_1
  replace cb12_2 := g15.cell cb12_2
  replace cb12_3 := g15.cell cb12_3
  have G15 := Lib.hid (GX_cb12.out.trans g15)
  have s15 := g15.size
  clear g15
  dsimp only
  go_wp2_with fail
  refine (heldPlayer_any _ R.L.length _ R.t R.r R.p 1 _ (rd_own (by decide) cCue_len O4.out) (by omega) (by omega) (by omega)).mono ?_
  rintro e w16 ⟨rfl, g16⟩
  have O1 := Lib.hid (own_G O1.out g16)
  have O2 := Lib.hid (own_G O2.out g16)
  have O3 := Lib.hid (own_G O3.out g16)
  have O4 := Lib.hid (own_G O4.out g16)
  have O5 := Lib.hid (own_G O5.out g16)
  have O6 := Lib.hid (own_G O6.out g16)
  have O7 := Lib.hid (own_G O7.out g16)
  replace cb4_0 := g16.cell cb4_0
  replace cb4_1 := g16.cell cb4_1
  replace cb4_2 := g16.cell cb4_2
  replace cb4_3 := g16.cell cb4_3
  replace cb7_0 := g16.cell cb7_0
  replace cb7_1 := g16.cell cb7_1
  replace cb7_2 := g16.cell cb7_2
  replace cb7_3 := g16.cell cb7_3
  replace cb12_0 := g16.cell cb12_0
  replace cb12_1 := g16.cell cb12_1
  replace cb12_2 := g16.cell cb12_2
  replace cb12_3 := g16.cell cb12_3
  have G16 := Lib.hid (G15.out.trans g16)
  have s16 := g16.size
  clear g16
  dsimp only
  go_wp2
  go_ret
  exact ⟨rfl, G16.out⟩
end Go.Proofs.Ytdpmnmhblnjhiaa
