/-
  The law of TickBy, walked.
-/
import Derived.Test.YtdpmnmhblnjhiaaTick2
import Derived.Test.YtdpmnmhblnjhiaaMarkPl
import Derived.Test.YtdpmnmhblnjhiaaOpPlayer
import Derived.Test.YtdpmnmhblnjhiaaStrs
namespace Go.Proofs.Ytdpmnmhblnjhiaa
open Go.RowKit
attribute [local go_sem ↓] Go.wp_at_zero Go.wp_at_succ

set_option maxRecDepth 20000 in
set_option maxHeartbeats 8000000 in
theorem lawTickBy (v0 : Value) (z0 : SPl) (a1 : Int) (w : World) (h0 : ArgPl w v0 z0) (_wf1 : (Lit.int .i64 a1).wf = true) :
    Calls Try.prog 12 #[v0, .int .i64 a1] w fun e w' => e = .returned (.bool true) ∧ Below w.heap.size w w' := by
  obtain ⟨rfl, ⟨hm, hn, hr, hw⟩, hwt, hwr⟩ := h0
  obtain ⟨A0, n0, c0, t0, r0, p0, L0⟩ := z0
  simp only at hm hn hr hw hwt hwr
  have HW0 := Lib.hid hw
  have Hn0 := Lib.hid hn
  have HR0 := Lib.hid hr
  unfold maxLen at hm
  have B0 := Lib.hid ((G.refl w).alloc (.cells #[.slice A0 n0 c0, .int .i64 t0, .int .i64 r0, .bool p0] 24))
  have q0 := tot_nonneg szCue szCue_nonneg L0
  have HQ : Hid (n0 ≤ maxLen) := Lib.hid (by unfold maxLen; omega)
  have KS := Lib.hid (fun (W : World) (g : G w W) => szPlayer_any A0 n0 c0 t0 r0 p0 L0 1048576 W (hr.G g) hn hw HQ.out (by omega) (by omega))
  have cb0_0 : (w.alloc (.cells #[.slice A0 n0 c0, .int .i64 t0, .int .i64 r0, .bool p0] 24)).cell? ⟨w.heap.size, 0, none⟩ = some (.slice A0 n0 c0) := (World.cell?_alloc_at _ _ _ 0 rfl).trans rfl
  have cb0_1 : (w.alloc (.cells #[.slice A0 n0 c0, .int .i64 t0, .int .i64 r0, .bool p0] 24)).cell? ⟨w.heap.size, 1, none⟩ = some (.int .i64 t0) := (World.cell?_alloc_at _ _ _ 1 rfl).trans rfl
  have cb0_2 : (w.alloc (.cells #[.slice A0 n0 c0, .int .i64 t0, .int .i64 r0, .bool p0] 24)).cell? ⟨w.heap.size, 2, none⟩ = some (.int .i64 r0) := (World.cell?_alloc_at _ _ _ 2 rfl).trans rfl
  have cb0_3 : (w.alloc (.cells #[.slice A0 n0 c0, .int .i64 t0, .int .i64 r0, .bool p0] 24)).cell? ⟨w.heap.size, 3, none⟩ = some (.bool p0) := (World.cell?_alloc_at _ _ _ 3 rfl).trans rfl
  clear hn hr hw hwt hwr
  unfold pV
  by_cases q : (1048576 : Int) - n0 - tot szCue L0 < 0
  case pos =>
    have HZ := Lib.hid (szR_neg q)
    go_enter Try.func12, Try.ntmps12
    go_wp2_with fail
    refine (KS.out _ B0.out).mono ?_
    rintro e w1 ⟨rfl, g1⟩
    replace cb0_0 := g1.cell cb0_0
    replace cb0_1 := g1.cell cb0_1
    replace cb0_2 := g1.cell cb0_2
    replace cb0_3 := g1.cell cb0_3
    have G1 := Lib.hid (B0.out.trans g1)
    have s1 := g1.size
    clear g1
    rw [HZ.out]
    dsimp only
    go_wp2
    go_ret
    exact ⟨rfl, G1.out⟩
  have HZ := Lib.hid (szR_pos (y := (1048576 : Int) - n0 - tot szCue L0) (by omega))
  have hb : n0 ≤ 1048576 := by omega
  obtain ⟨RR, HX⟩ : ∃ R, Hid (tickR L0 t0 r0 p0 a1 = R) := ⟨_, rfl⟩
  have hRb : RR.1.L.length ≤ 1048576 := by rw [← HX.out]; exact Nat.le_trans (tickR_len L0) (by rw [Hn0.out]; exact hb)
  have hSb : RR.2.length ≤ 1048576 := by rw [← HX.out]; exact Nat.le_trans (tickR_len2 L0) (by rw [Hn0.out]; exact hb)
  obtain ⟨R, S⟩ := RR
  simp only at hRb hSb
  have KT := Lib.hid (fun (W : World) (g : G w W) => toPlayer_any A0 n0 c0 t0 r0 p0 L0 W (HR0.out.G g) Hn0.out hb)
  go_enter Try.func12, Try.ntmps12
  go_wp2_with fail
  refine (KS.out _ B0.out).mono ?_
  rintro e w1 ⟨rfl, g1⟩
  replace cb0_0 := g1.cell cb0_0
  replace cb0_1 := g1.cell cb0_1
  replace cb0_2 := g1.cell cb0_2
  replace cb0_3 := g1.cell cb0_3
  have G1 := Lib.hid (B0.out.trans g1)
  have s1 := g1.size
  clear g1
  rw [HZ.out]
  dsimp only
  have bq0 := block_lt_of_cell cb0_0
  simp only at bq0
  go_wp2_with fail
  refine (KT.out _ G1.out).mono ?_
  rintro e w2 ⟨b1, rfl, hb1, hl1, g2, o1⟩
  replace cb0_0 := g2.cell cb0_0
  replace cb0_1 := g2.cell cb0_1
  replace cb0_2 := g2.cell cb0_2
  replace cb0_3 := g2.cell cb0_3
  have G2 := Lib.hid (G1.out.trans g2)
  have s2 := g2.size
  clear g2
  have O1 := Lib.hid o1
  clear o1
  have B1 := Lib.hid (own_bd O1.out)
  dsimp only
  go_wp2_with fail
  refine (sTickBy_any _ n0 _ t0 r0 p0 L0 a1 _ (rd_own (by decide) cCue_len O1.out) Hn0.out (by omega) HW0.out).mono ?_
  rw [HX.out]
  rintro e w3 ⟨A2, c2, A2s, c2s, rfl, g3, o2, o2s, d2⟩
  dsimp only at o2 o2s
  have O1 := Lib.hid (own_G O1.out g3)
  replace cb0_0 := g3.cell cb0_0
  replace cb0_1 := g3.cell cb0_1
  replace cb0_2 := g3.cell cb0_2
  replace cb0_3 := g3.cell cb0_3
  have G3 := Lib.hid (G2.out.trans g3)
  have s3 := g3.size
  clear g3
  have O2 := Lib.hid o2
  clear o2
  have B2 := Lib.hid (own_bd O2.out)
  have O2s := Lib.hid o2s
  clear o2s
  have B2s := Lib.hid (own_bd O2s.out)
  have D2 := Lib.hid d2
  clear d2
  dsimp only
  have gx := (G.refl w3).alloc (.cells #[.slice A2 R.L.length c2, .int .i64 R.t, .int .i64 R.r, .bool R.p] 29)
  have bs_cb4 : (w3.alloc (.cells #[.slice A2 R.L.length c2, .int .i64 R.t, .int .i64 R.r, .bool R.p] 29)).heap.size = w3.heap.size + 1 := by simp
  have cb4_0 : (w3.alloc (.cells #[.slice A2 R.L.length c2, .int .i64 R.t, .int .i64 R.r, .bool R.p] 29)).cell? ⟨w3.heap.size, 0, none⟩ = some (.slice A2 R.L.length c2) := (World.cell?_alloc_at _ _ _ 0 rfl).trans rfl
  have cb4_1 : (w3.alloc (.cells #[.slice A2 R.L.length c2, .int .i64 R.t, .int .i64 R.r, .bool R.p] 29)).cell? ⟨w3.heap.size, 1, none⟩ = some (.int .i64 R.t) := (World.cell?_alloc_at _ _ _ 1 rfl).trans rfl
  have cb4_2 : (w3.alloc (.cells #[.slice A2 R.L.length c2, .int .i64 R.t, .int .i64 R.r, .bool R.p] 29)).cell? ⟨w3.heap.size, 2, none⟩ = some (.int .i64 R.r) := (World.cell?_alloc_at _ _ _ 2 rfl).trans rfl
  have cb4_3 : (w3.alloc (.cells #[.slice A2 R.L.length c2, .int .i64 R.t, .int .i64 R.r, .bool R.p] 29)).cell? ⟨w3.heap.size, 3, none⟩ = some (.bool R.p) := (World.cell?_alloc_at _ _ _ 3 rfl).trans rfl
  have O1 := Lib.hid (own_G O1.out gx)
  have O2 := Lib.hid (own_G O2.out gx)
  have O2s := Lib.hid (own_G O2s.out gx)
  replace cb0_0 := gx.cell cb0_0
  replace cb0_1 := gx.cell cb0_1
  replace cb0_2 := gx.cell cb0_2
  replace cb0_3 := gx.cell cb0_3
  have GX_cb4 := Lib.hid (G3.out.trans gx)
  clear gx
  go_wp2_with fail
  refine (KT.out _ GX_cb4.out).mono ?_
  rintro e w4 ⟨b3, rfl, hb3, hl3, g4, o3⟩
  have O1 := Lib.hid (own_G O1.out g4)
  have O2 := Lib.hid (own_G O2.out g4)
  have O2s := Lib.hid (own_G O2s.out g4)
  replace cb0_0 := g4.cell cb0_0
  replace cb0_1 := g4.cell cb0_1
  replace cb0_2 := g4.cell cb0_2
  replace cb0_3 := g4.cell cb0_3
  replace cb4_0 := g4.cell cb4_0
  replace cb4_1 := g4.cell cb4_1
  replace cb4_2 := g4.cell cb4_2
  replace cb4_3 := g4.cell cb4_3
  have G4 := Lib.hid (GX_cb4.out.trans g4)
  have s4 := g4.size
  clear g4
  have O3 := Lib.hid o3
  clear o3
  have B3 := Lib.hid (own_bd O3.out)
  dsimp only
  have gx := (G.refl w4).alloc (.cells #[.slice (some ⟨b3, 0, none⟩) n0 n0, .int .i64 t0, .int .i64 r0, .bool p0] 29)
  have bs_cb6 : (w4.alloc (.cells #[.slice (some ⟨b3, 0, none⟩) n0 n0, .int .i64 t0, .int .i64 r0, .bool p0] 29)).heap.size = w4.heap.size + 1 := by simp
  have cb6_0 : (w4.alloc (.cells #[.slice (some ⟨b3, 0, none⟩) n0 n0, .int .i64 t0, .int .i64 r0, .bool p0] 29)).cell? ⟨w4.heap.size, 0, none⟩ = some (.slice (some ⟨b3, 0, none⟩) n0 n0) := (World.cell?_alloc_at _ _ _ 0 rfl).trans rfl
  have cb6_1 : (w4.alloc (.cells #[.slice (some ⟨b3, 0, none⟩) n0 n0, .int .i64 t0, .int .i64 r0, .bool p0] 29)).cell? ⟨w4.heap.size, 1, none⟩ = some (.int .i64 t0) := (World.cell?_alloc_at _ _ _ 1 rfl).trans rfl
  have cb6_2 : (w4.alloc (.cells #[.slice (some ⟨b3, 0, none⟩) n0 n0, .int .i64 t0, .int .i64 r0, .bool p0] 29)).cell? ⟨w4.heap.size, 2, none⟩ = some (.int .i64 r0) := (World.cell?_alloc_at _ _ _ 2 rfl).trans rfl
  have cb6_3 : (w4.alloc (.cells #[.slice (some ⟨b3, 0, none⟩) n0 n0, .int .i64 t0, .int .i64 r0, .bool p0] 29)).cell? ⟨w4.heap.size, 3, none⟩ = some (.bool p0) := (World.cell?_alloc_at _ _ _ 3 rfl).trans rfl
  have O1 := Lib.hid (own_G O1.out gx)
  have O2 := Lib.hid (own_G O2.out gx)
  have O2s := Lib.hid (own_G O2s.out gx)
  have O3 := Lib.hid (own_G O3.out gx)
  replace cb0_0 := gx.cell cb0_0
  replace cb0_1 := gx.cell cb0_1
  replace cb0_2 := gx.cell cb0_2
  replace cb0_3 := gx.cell cb0_3
  replace cb4_0 := gx.cell cb4_0
  replace cb4_1 := gx.cell cb4_1
  replace cb4_2 := gx.cell cb4_2
  replace cb4_3 := gx.cell cb4_3
  have GX_cb6 := Lib.hid (G4.out.trans gx)
  clear gx
  go_wp2_with fail
  refine (iTickBy_any _ n0 _ t0 r0 p0 L0 a1 _ (rd_own (by decide) cCue_len O3.out) Hn0.out (by omega) (Nat.le_refl _) HW0.out).mono ?_
  rw [HX.out]
  rintro e w5 ⟨A4, c4, A4s, c4s, rfl, g5, o4, o4s, d4⟩
  dsimp only at o4 o4s
  have O1 := Lib.hid (own_G O1.out g5)
  have O2 := Lib.hid (own_G O2.out g5)
  have O2s := Lib.hid (own_G O2s.out g5)
  have O3 := Lib.hid (own_G O3.out g5)
  replace cb0_0 := g5.cell cb0_0
  replace cb0_1 := g5.cell cb0_1
  replace cb0_2 := g5.cell cb0_2
  replace cb0_3 := g5.cell cb0_3
  replace cb4_0 := g5.cell cb4_0
  replace cb4_1 := g5.cell cb4_1
  replace cb4_2 := g5.cell cb4_2
  replace cb4_3 := g5.cell cb4_3
  replace cb6_0 := g5.cell cb6_0
  replace cb6_1 := g5.cell cb6_1
  replace cb6_2 := g5.cell cb6_2
  replace cb6_3 := g5.cell cb6_3
  have G5 := Lib.hid (GX_cb6.out.trans g5)
  have s5 := g5.size
  clear g5
  have O4 := Lib.hid o4
  clear o4
  have B4 := Lib.hid (own_bd O4.out)
  have O4s := Lib.hid o4s
  clear o4s
  have B4s := Lib.hid (own_bd O4s.out)
  have D4 := Lib.hid d4
  clear d4
  dsimp only
  have gx := (G.refl w5).alloc (.cells #[.slice A4 R.L.length c4, .int .i64 R.t, .int .i64 R.r, .bool R.p] 29)
  have bs_cb7 : (w5.alloc (.cells #[.slice A4 R.L.length c4, .int .i64 R.t, .int .i64 R.r, .bool R.p] 29)).heap.size = w5.heap.size + 1 := by simp
  have cb7_0 : (w5.alloc (.cells #[.slice A4 R.L.length c4, .int .i64 R.t, .int .i64 R.r, .bool R.p] 29)).cell? ⟨w5.heap.size, 0, none⟩ = some (.slice A4 R.L.length c4) := (World.cell?_alloc_at _ _ _ 0 rfl).trans rfl
  have cb7_1 : (w5.alloc (.cells #[.slice A4 R.L.length c4, .int .i64 R.t, .int .i64 R.r, .bool R.p] 29)).cell? ⟨w5.heap.size, 1, none⟩ = some (.int .i64 R.t) := (World.cell?_alloc_at _ _ _ 1 rfl).trans rfl
  have cb7_2 : (w5.alloc (.cells #[.slice A4 R.L.length c4, .int .i64 R.t, .int .i64 R.r, .bool R.p] 29)).cell? ⟨w5.heap.size, 2, none⟩ = some (.int .i64 R.r) := (World.cell?_alloc_at _ _ _ 2 rfl).trans rfl
  have cb7_3 : (w5.alloc (.cells #[.slice A4 R.L.length c4, .int .i64 R.t, .int .i64 R.r, .bool R.p] 29)).cell? ⟨w5.heap.size, 3, none⟩ = some (.bool R.p) := (World.cell?_alloc_at _ _ _ 3 rfl).trans rfl
  have O1 := Lib.hid (own_G O1.out gx)
  have O2 := Lib.hid (own_G O2.out gx)
  have O2s := Lib.hid (own_G O2s.out gx)
  have O3 := Lib.hid (own_G O3.out gx)
  have O4 := Lib.hid (own_G O4.out gx)
  have O4s := Lib.hid (own_G O4s.out gx)
  replace cb0_0 := gx.cell cb0_0
  replace cb0_1 := gx.cell cb0_1
  replace cb0_2 := gx.cell cb0_2
  replace cb0_3 := gx.cell cb0_3
  replace cb4_0 := gx.cell cb4_0
  replace cb4_1 := gx.cell cb4_1
  replace cb4_2 := gx.cell cb4_2
  replace cb4_3 := gx.cell cb4_3
  replace cb6_0 := gx.cell cb6_0
  replace cb6_1 := gx.cell cb6_1
  replace cb6_2 := gx.cell cb6_2
  replace cb6_3 := gx.cell cb6_3
  have GX_cb7 := Lib.hid (G5.out.trans gx)
  clear gx
  go_wp2_with fail
  refine (eqPlayer_same _ _ R.L.length _ _ R.t R.r R.p R.L _ (rd_own (by decide) cCue_len O4.out) (rd_own (by decide) cCue_len O2.out) rfl (by omega)).mono ?_
  rintro e w6 ⟨rfl, g6⟩
  have O1 := Lib.hid (own_G O1.out g6)
  have O2 := Lib.hid (own_G O2.out g6)
  have O2s := Lib.hid (own_G O2s.out g6)
  have O3 := Lib.hid (own_G O3.out g6)
  have O4 := Lib.hid (own_G O4.out g6)
  have O4s := Lib.hid (own_G O4s.out g6)
  replace cb0_0 := g6.cell cb0_0
  replace cb0_1 := g6.cell cb0_1
  replace cb0_2 := g6.cell cb0_2
  replace cb0_3 := g6.cell cb0_3
  replace cb4_0 := g6.cell cb4_0
  replace cb4_1 := g6.cell cb4_1
  replace cb4_2 := g6.cell cb4_2
  replace cb4_3 := g6.cell cb4_3
  replace cb6_0 := g6.cell cb6_0
  replace cb6_1 := g6.cell cb6_1
  replace cb6_2 := g6.cell cb6_2
  replace cb6_3 := g6.cell cb6_3
  replace cb7_0 := g6.cell cb7_0
  replace cb7_1 := g6.cell cb7_1
  replace cb7_2 := g6.cell cb7_2
  replace cb7_3 := g6.cell cb7_3
  have G6 := Lib.hid (GX_cb7.out.trans g6)
  have s6 := g6.size
  clear g6
  dsimp only
  go_wp2_with fail
  refine (eqStringS_same _ _ S.length _ _ S _ (rd_strs O4s.out) (rd_strs O2s.out) rfl (by omega)).mono ?_
  rintro e w7 ⟨rfl, g7⟩
  have O1 := Lib.hid (own_G O1.out g7)
  have O2 := Lib.hid (own_G O2.out g7)
  have O2s := Lib.hid (own_G O2s.out g7)
  have O3 := Lib.hid (own_G O3.out g7)
  have O4 := Lib.hid (own_G O4.out g7)
  have O4s := Lib.hid (own_G O4s.out g7)
  replace cb0_0 := g7.cell cb0_0
  replace cb0_1 := g7.cell cb0_1
  replace cb0_2 := g7.cell cb0_2
  replace cb0_3 := g7.cell cb0_3
  replace cb4_0 := g7.cell cb4_0
  replace cb4_1 := g7.cell cb4_1
  replace cb4_2 := g7.cell cb4_2
  replace cb4_3 := g7.cell cb4_3
  replace cb6_0 := g7.cell cb6_0
  replace cb6_1 := g7.cell cb6_1
  replace cb6_2 := g7.cell cb6_2
  replace cb6_3 := g7.cell cb6_3
  replace cb7_0 := g7.cell cb7_0
  replace cb7_1 := g7.cell cb7_1
  replace cb7_2 := g7.cell cb7_2
  replace cb7_3 := g7.cell cb7_3
  have G7 := Lib.hid (G6.out.trans g7)
  have s7 := g7.size
  clear g7
  dsimp only
  go_wp2_with fail
  go_region_held3 (fun w' => w'.cell? ⟨w.heap.size, 0, none⟩ = some (.slice A0 n0 c0) ∧ w'.cell? ⟨w.heap.size, 1, none⟩ = some (.int .i64 t0) ∧ w'.cell? ⟨w.heap.size, 2, none⟩ = some (.int .i64 r0) ∧ w'.cell? ⟨w.heap.size, 3, none⟩ = some (.bool p0) ∧ w'.cell? ⟨w4.heap.size, 0, none⟩ = some (.slice (some ⟨b3, 0, none⟩) n0 n0) ∧ w'.cell? ⟨w4.heap.size, 1, none⟩ = some (.int .i64 t0) ∧ w'.cell? ⟨w4.heap.size, 2, none⟩ = some (.int .i64 r0) ∧ w'.cell? ⟨w4.heap.size, 3, none⟩ = some (.bool p0)) (first | go_keep | exact ⟨cb0_0, cb0_1, cb0_2, cb0_3, cb6_0, cb6_1, cb6_2, cb6_3⟩) (first | (go_at_call 16; refine (KT.out _ ?hq).mono ?_; (case hq => exact G7.out.drew); rintro e w8 ⟨b5, rfl, hb5, hl5, g8, o5⟩; have O1 := Lib.hid (own_G (w := w7.drew) O1.out g8); have O2 := Lib.hid (own_G (w := w7.drew) O2.out g8); have O2s := Lib.hid (own_G (w := w7.drew) O2s.out g8); have O3 := Lib.hid (own_G (w := w7.drew) O3.out g8); have O4 := Lib.hid (own_G (w := w7.drew) O4.out g8); have O4s := Lib.hid (own_G (w := w7.drew) O4s.out g8); replace cb0_0 := g8.cell cb0_0; replace cb0_1 := g8.cell cb0_1; replace cb0_2 := g8.cell cb0_2; replace cb0_3 := g8.cell cb0_3; replace cb4_0 := g8.cell cb4_0; replace cb4_1 := g8.cell cb4_1; replace cb4_2 := g8.cell cb4_2; replace cb4_3 := g8.cell cb4_3; replace cb6_0 := g8.cell cb6_0; replace cb6_1 := g8.cell cb6_1; replace cb6_2 := g8.cell cb6_2; replace cb6_3 := g8.cell cb6_3; replace cb7_0 := g8.cell cb7_0; replace cb7_1 := g8.cell cb7_1; replace cb7_2 := g8.cell cb7_2; replace cb7_3 := g8.cell cb7_3; have O5 := Lib.hid o5; clear o5; have s8 : w7.heap.size ≤ w8.heap.size := g8.size; have G8 := Lib.hid (G7.out.drew.trans g8); clear g8) | (go_at_call 18; refine (eqPlayer_same _ _ n0 _ _ t0 r0 p0 L0 _ (rd_own (by decide) cCue_len O3.out) (rd_own (by decide) cCue_len O5.out) Hn0.out (by omega)).mono ?_; rintro e w9 ⟨rfl, g9⟩; have O1 := Lib.hid (own_G O1.out g9); have O2 := Lib.hid (own_G O2.out g9); have O2s := Lib.hid (own_G O2s.out g9); have O3 := Lib.hid (own_G O3.out g9); have O4 := Lib.hid (own_G O4.out g9); have O4s := Lib.hid (own_G O4s.out g9); replace cb0_0 := g9.cell cb0_0; replace cb0_1 := g9.cell cb0_1; replace cb0_2 := g9.cell cb0_2; replace cb0_3 := g9.cell cb0_3; replace cb4_0 := g9.cell cb4_0; replace cb4_1 := g9.cell cb4_1; replace cb4_2 := g9.cell cb4_2; replace cb4_3 := g9.cell cb4_3; replace cb6_0 := g9.cell cb6_0; replace cb6_1 := g9.cell cb6_1; replace cb6_2 := g9.cell cb6_2; replace cb6_3 := g9.cell cb6_3; replace cb7_0 := g9.cell cb7_0; replace cb7_1 := g9.cell cb7_1; replace cb7_2 := g9.cell cb7_2; replace cb7_3 := g9.cell cb7_3; have s9 := g9.size; have G9 := Lib.hid (G8.out.trans g9); clear g9))
  go_wp2_with fail
  refine (markPlayer_any _ _ n0 _ t0 r0 p0 _ 1 _ O3.out (by omega) (by omega) (by omega)).mono ?_
  rintro e w10 ⟨rfl, g10, o3⟩
  have O1 := Lib.hid (own_Gx O1.out g10 (own_ne (fun a b ha hb => by have h1 := B1.out a ha; have h2 := B3.out b hb; omega)))
  have O2 := Lib.hid (own_Gx O2.out g10 (own_ne (fun a b ha hb => by have h1 := B2.out a ha; have h2 := B3.out b hb; omega)))
  have O2s := Lib.hid (own_Gx O2s.out g10 (own_ne (fun a b ha hb => by have h1 := B2s.out a ha; have h2 := B3.out b hb; omega)))
  have O4 := Lib.hid (own_Gx O4.out g10 (own_ne (fun a b ha hb => by have h1 := B4.out a ha; have h2 := B3.out b hb; omega)))
  have O4s := Lib.hid (own_Gx O4s.out g10 (own_ne (fun a b ha hb => by have h1 := B4s.out a ha; have h2 := B3.out b hb; omega)))
  replace cb0_0 := Gx.cell g10 cb0_0 (map_ne (fun a ha => by have h1 := B3.out a ha; simp only; omega))
  replace cb0_1 := Gx.cell g10 cb0_1 (map_ne (fun a ha => by have h1 := B3.out a ha; simp only; omega))
  replace cb0_2 := Gx.cell g10 cb0_2 (map_ne (fun a ha => by have h1 := B3.out a ha; simp only; omega))
  replace cb0_3 := Gx.cell g10 cb0_3 (map_ne (fun a ha => by have h1 := B3.out a ha; simp only; omega))
  replace cb4_0 := Gx.cell g10 cb4_0 (map_ne (fun a ha => by have h1 := B3.out a ha; simp only; omega))
  replace cb4_1 := Gx.cell g10 cb4_1 (map_ne (fun a ha => by have h1 := B3.out a ha; simp only; omega))
  replace cb4_2 := Gx.cell g10 cb4_2 (map_ne (fun a ha => by have h1 := B3.out a ha; simp only; omega))
  replace cb4_3 := Gx.cell g10 cb4_3 (map_ne (fun a ha => by have h1 := B3.out a ha; simp only; omega))
  replace cb6_0 := Gx.cell g10 cb6_0 (map_ne (fun a ha => by have h1 := B3.out a ha; simp only; omega))
  replace cb6_1 := Gx.cell g10 cb6_1 (map_ne (fun a ha => by have h1 := B3.out a ha; simp only; omega))
  replace cb6_2 := Gx.cell g10 cb6_2 (map_ne (fun a ha => by have h1 := B3.out a ha; simp only; omega))
  replace cb6_3 := Gx.cell g10 cb6_3 (map_ne (fun a ha => by have h1 := B3.out a ha; simp only; omega))
  replace cb7_0 := Gx.cell g10 cb7_0 (map_ne (fun a ha => by have h1 := B3.out a ha; simp only; omega))
  replace cb7_1 := Gx.cell g10 cb7_1 (map_ne (fun a ha => by have h1 := B3.out a ha; simp only; omega))
  replace cb7_2 := Gx.cell g10 cb7_2 (map_ne (fun a ha => by have h1 := B3.out a ha; simp only; omega))
  replace cb7_3 := Gx.cell g10 cb7_3 (map_ne (fun a ha => by have h1 := B3.out a ha; simp only; omega))
  have s10 := World.grownBy.size g10
  have G10 := Lib.hid (Gx.G G9.out g10 (map_block (fun a ha => by have h1 := B3.out a ha; omega)))
  have O3 := Lib.hid o3
  clear g10 o3
  dsimp only
  go_wp2_with fail
  refine (eqPlayer_same _ _ R.L.length _ _ R.t R.r R.p R.L _ (rd_own (by decide) cCue_len O4.out) (rd_own (by decide) cCue_len O2.out) rfl (by omega)).mono ?_
  rintro e w11 ⟨rfl, g11⟩
  have O1 := Lib.hid (own_G O1.out g11)
  have O2 := Lib.hid (own_G O2.out g11)
  have O2s := Lib.hid (own_G O2s.out g11)
  have O3 := Lib.hid (own_G O3.out g11)
  have O4 := Lib.hid (own_G O4.out g11)
  have O4s := Lib.hid (own_G O4s.out g11)
  replace cb0_0 := g11.cell cb0_0
  replace cb0_1 := g11.cell cb0_1
  replace cb0_2 := g11.cell cb0_2
  replace cb0_3 := g11.cell cb0_3
  replace cb4_0 := g11.cell cb4_0
  replace cb4_1 := g11.cell cb4_1
  replace cb4_2 := g11.cell cb4_2
  replace cb4_3 := g11.cell cb4_3
  replace cb6_0 := g11.cell cb6_0
  replace cb6_1 := g11.cell cb6_1
  replace cb6_2 := g11.cell cb6_2
  replace cb6_3 := g11.cell cb6_3
  replace cb7_0 := g11.cell cb7_0
  replace cb7_1 := g11.cell cb7_1
  replace cb7_2 := g11.cell cb7_2
  replace cb7_3 := g11.cell cb7_3
  have G11 := Lib.hid (G10.out.trans g11)
  have s11 := g11.size
  clear g11
  dsimp only
  go_wp2_with fail
  refine (eqStringS_same _ _ S.length _ _ S _ (rd_strs O4s.out) (rd_strs O2s.out) rfl (by omega)).mono ?_
  rintro e w12 ⟨rfl, g12⟩
  have O1 := Lib.hid (own_G O1.out g12)
  have O2 := Lib.hid (own_G O2.out g12)
  have O2s := Lib.hid (own_G O2s.out g12)
  have O3 := Lib.hid (own_G O3.out g12)
  have O4 := Lib.hid (own_G O4.out g12)
  have O4s := Lib.hid (own_G O4s.out g12)
  replace cb0_0 := g12.cell cb0_0
  replace cb0_1 := g12.cell cb0_1
  replace cb0_2 := g12.cell cb0_2
  replace cb0_3 := g12.cell cb0_3
  replace cb4_0 := g12.cell cb4_0
  replace cb4_1 := g12.cell cb4_1
  replace cb4_2 := g12.cell cb4_2
  replace cb4_3 := g12.cell cb4_3
  replace cb6_0 := g12.cell cb6_0
  replace cb6_1 := g12.cell cb6_1
  replace cb6_2 := g12.cell cb6_2
  replace cb6_3 := g12.cell cb6_3
  replace cb7_0 := g12.cell cb7_0
  replace cb7_1 := g12.cell cb7_1
  replace cb7_2 := g12.cell cb7_2
  replace cb7_3 := g12.cell cb7_3
  have G12 := Lib.hid (G11.out.trans g12)
  have s12 := g12.size
  clear g12
  dsimp only
  go_wp2_with fail
  refine (markPlayer_any _ _ R.L.length _ R.t R.r R.p _ 1 _ O4.out (by omega) (by omega) (by omega)).mono ?_
  rintro e w13 ⟨rfl, g13, o4⟩
  have O1 := Lib.hid (own_Gx O1.out g13 (own_ne (fun a b ha hb => by have h1 := B1.out a ha; have h2 := B4.out b hb; omega)))
  have O2 := Lib.hid (own_Gx O2.out g13 (own_ne (fun a b ha hb => by have h1 := B2.out a ha; have h2 := B4.out b hb; omega)))
  have O2s := Lib.hid (own_Gx O2s.out g13 (own_ne (fun a b ha hb => by have h1 := B2s.out a ha; have h2 := B4.out b hb; omega)))
  have O3 := Lib.hid (own_Gx O3.out g13 (own_ne (fun a b ha hb => by have h1 := B3.out a ha; have h2 := B4.out b hb; omega)))
  have O4s := Lib.hid (own_Gx O4s.out g13 (own_ne (fun a b ha hb => by exact (D4.out b a hb ha).symm)))
  replace cb0_0 := Gx.cell g13 cb0_0 (map_ne (fun a ha => by have h1 := B4.out a ha; simp only; omega))
  replace cb0_1 := Gx.cell g13 cb0_1 (map_ne (fun a ha => by have h1 := B4.out a ha; simp only; omega))
  replace cb0_2 := Gx.cell g13 cb0_2 (map_ne (fun a ha => by have h1 := B4.out a ha; simp only; omega))
  replace cb0_3 := Gx.cell g13 cb0_3 (map_ne (fun a ha => by have h1 := B4.out a ha; simp only; omega))
  replace cb4_0 := Gx.cell g13 cb4_0 (map_ne (fun a ha => by have h1 := B4.out a ha; simp only; omega))
  replace cb4_1 := Gx.cell g13 cb4_1 (map_ne (fun a ha => by have h1 := B4.out a ha; simp only; omega))
  replace cb4_2 := Gx.cell g13 cb4_2 (map_ne (fun a ha => by have h1 := B4.out a ha; simp only; omega))
  replace cb4_3 := Gx.cell g13 cb4_3 (map_ne (fun a ha => by have h1 := B4.out a ha; simp only; omega))
  replace cb6_0 := Gx.cell g13 cb6_0 (map_ne (fun a ha => by have h1 := B4.out a ha; simp only; omega))
  replace cb6_1 := Gx.cell g13 cb6_1 (map_ne (fun a ha => by have h1 := B4.out a ha; simp only; omega))
  replace cb6_2 := Gx.cell g13 cb6_2 (map_ne (fun a ha => by have h1 := B4.out a ha; simp only; omega))
  replace cb6_3 := Gx.cell g13 cb6_3 (map_ne (fun a ha => by have h1 := B4.out a ha; simp only; omega))
  replace cb7_0 := Gx.cell g13 cb7_0 (map_ne (fun a ha => by have h1 := B4.out a ha; simp only; omega))
  replace cb7_1 := Gx.cell g13 cb7_1 (map_ne (fun a ha => by have h1 := B4.out a ha; simp only; omega))
  replace cb7_2 := Gx.cell g13 cb7_2 (map_ne (fun a ha => by have h1 := B4.out a ha; simp only; omega))
  replace cb7_3 := Gx.cell g13 cb7_3 (map_ne (fun a ha => by have h1 := B4.out a ha; simp only; omega))
  have s13 := World.grownBy.size g13
  have G13 := Lib.hid (Gx.G G12.out g13 (map_block (fun a ha => by have h1 := B4.out a ha; omega)))
  have O4 := Lib.hid o4
  clear g13 o4
  dsimp only
  go_wp2_with fail
  refine (markStringS_any _ _ S.length _ _ (1 + 6 * (R.L.length : Int)) _ O4s.out (by omega) (by omega) (by omega)).mono ?_
  rintro e w14 ⟨rfl, g14, o4s⟩
  have O1 := Lib.hid (own_Gx O1.out g14 (own_ne (fun a b ha hb => by have h1 := B1.out a ha; have h2 := B4s.out b hb; omega)))
  have O2 := Lib.hid (own_Gx O2.out g14 (own_ne (fun a b ha hb => by have h1 := B2.out a ha; have h2 := B4s.out b hb; omega)))
  have O2s := Lib.hid (own_Gx O2s.out g14 (own_ne (fun a b ha hb => by have h1 := B2s.out a ha; have h2 := B4s.out b hb; omega)))
  have O3 := Lib.hid (own_Gx O3.out g14 (own_ne (fun a b ha hb => by have h1 := B3.out a ha; have h2 := B4s.out b hb; omega)))
  have O4 := Lib.hid (own_Gx O4.out g14 (own_ne (fun a b ha hb => by exact D4.out a b ha hb)))
  replace cb0_0 := Gx.cell g14 cb0_0 (map_ne (fun a ha => by have h1 := B4s.out a ha; simp only; omega))
  replace cb0_1 := Gx.cell g14 cb0_1 (map_ne (fun a ha => by have h1 := B4s.out a ha; simp only; omega))
  replace cb0_2 := Gx.cell g14 cb0_2 (map_ne (fun a ha => by have h1 := B4s.out a ha; simp only; omega))
  replace cb0_3 := Gx.cell g14 cb0_3 (map_ne (fun a ha => by have h1 := B4s.out a ha; simp only; omega))
  replace cb4_0 := Gx.cell g14 cb4_0 (map_ne (fun a ha => by have h1 := B4s.out a ha; simp only; omega))
  replace cb4_1 := Gx.cell g14 cb4_1 (map_ne (fun a ha => by have h1 := B4s.out a ha; simp only; omega))
  replace cb4_2 := Gx.cell g14 cb4_2 (map_ne (fun a ha => by have h1 := B4s.out a ha; simp only; omega))
  replace cb4_3 := Gx.cell g14 cb4_3 (map_ne (fun a ha => by have h1 := B4s.out a ha; simp only; omega))
  replace cb6_0 := Gx.cell g14 cb6_0 (map_ne (fun a ha => by have h1 := B4s.out a ha; simp only; omega))
  replace cb6_1 := Gx.cell g14 cb6_1 (map_ne (fun a ha => by have h1 := B4s.out a ha; simp only; omega))
  replace cb6_2 := Gx.cell g14 cb6_2 (map_ne (fun a ha => by have h1 := B4s.out a ha; simp only; omega))
  replace cb6_3 := Gx.cell g14 cb6_3 (map_ne (fun a ha => by have h1 := B4s.out a ha; simp only; omega))
  replace cb7_0 := Gx.cell g14 cb7_0 (map_ne (fun a ha => by have h1 := B4s.out a ha; simp only; omega))
  replace cb7_1 := Gx.cell g14 cb7_1 (map_ne (fun a ha => by have h1 := B4s.out a ha; simp only; omega))
  replace cb7_2 := Gx.cell g14 cb7_2 (map_ne (fun a ha => by have h1 := B4s.out a ha; simp only; omega))
  replace cb7_3 := Gx.cell g14 cb7_3 (map_ne (fun a ha => by have h1 := B4s.out a ha; simp only; omega))
  have s14 := World.grownBy.size g14
  have G14 := Lib.hid (Gx.G G13.out g14 (map_block (fun a ha => by have h1 := B4s.out a ha; omega)))
  have O4s := Lib.hid o4s
  clear g14 o4s
  dsimp only
  go_wp2_with fail
  refine (heldPlayer_any _ R.L.length _ R.t R.r R.p 1 _ (rd_own (by decide) cCue_len O4.out) (by omega) (by omega) (by omega)).mono ?_
  rintro e w15 ⟨rfl, g15⟩
  have O1 := Lib.hid (own_G O1.out g15)
  have O2 := Lib.hid (own_G O2.out g15)
  have O2s := Lib.hid (own_G O2s.out g15)
  have O3 := Lib.hid (own_G O3.out g15)
  have O4 := Lib.hid (own_G O4.out g15)
  have O4s := Lib.hid (own_G O4s.out g15)
  replace cb0_0 := g15.cell cb0_0
  replace cb0_1 := g15.cell cb0_1
  replace cb0_2 := g15.cell cb0_2
  replace cb0_3 := g15.cell cb0_3
  replace cb4_0 := g15.cell cb4_0
  replace cb4_1 := g15.cell cb4_1
  replace cb4_2 := g15.cell cb4_2
  replace cb4_3 := g15.cell cb4_3
  replace cb6_0 := g15.cell cb6_0
  replace cb6_1 := g15.cell cb6_1
  replace cb6_2 := g15.cell cb6_2
  replace cb6_3 := g15.cell cb6_3
  replace cb7_0 := g15.cell cb7_0
  replace cb7_1 := g15.cell cb7_1
  replace cb7_2 := g15.cell cb7_2
  replace cb7_3 := g15.cell cb7_3
  have G15 := Lib.hid (G14.out.trans g15)
  have s15 := g15.size
  clear g15
  dsimp only
  go_wp2_with fail
  refine (heldStringS_any _ S.length _ (1 + 6 * (R.L.length : Int)) _ (rd_strs O4s.out) (by omega) (by omega) (by omega)).mono ?_
  rintro e w16 ⟨rfl, g16⟩
  have O1 := Lib.hid (own_G O1.out g16)
  have O2 := Lib.hid (own_G O2.out g16)
  have O2s := Lib.hid (own_G O2s.out g16)
  have O3 := Lib.hid (own_G O3.out g16)
  have O4 := Lib.hid (own_G O4.out g16)
  have O4s := Lib.hid (own_G O4s.out g16)
  replace cb0_0 := g16.cell cb0_0
  replace cb0_1 := g16.cell cb0_1
  replace cb0_2 := g16.cell cb0_2
  replace cb0_3 := g16.cell cb0_3
  replace cb4_0 := g16.cell cb4_0
  replace cb4_1 := g16.cell cb4_1
  replace cb4_2 := g16.cell cb4_2
  replace cb4_3 := g16.cell cb4_3
  replace cb6_0 := g16.cell cb6_0
  replace cb6_1 := g16.cell cb6_1
  replace cb6_2 := g16.cell cb6_2
  replace cb6_3 := g16.cell cb6_3
  replace cb7_0 := g16.cell cb7_0
  replace cb7_1 := g16.cell cb7_1
  replace cb7_2 := g16.cell cb7_2
  replace cb7_3 := g16.cell cb7_3
  have G16 := Lib.hid (G15.out.trans g16)
  have s16 := g16.size
  clear g16
  dsimp only
  go_wp2_with fail
  refine (KT.out _ G16.out).mono ?_
  rintro e w17 ⟨b6, rfl, hb6, hl6, g17, o6⟩
  have O1 := Lib.hid (own_G O1.out g17)
  have O2 := Lib.hid (own_G O2.out g17)
  have O2s := Lib.hid (own_G O2s.out g17)
  have O3 := Lib.hid (own_G O3.out g17)
  have O4 := Lib.hid (own_G O4.out g17)
  have O4s := Lib.hid (own_G O4s.out g17)
  replace cb0_0 := g17.cell cb0_0
  replace cb0_1 := g17.cell cb0_1
  replace cb0_2 := g17.cell cb0_2
  replace cb0_3 := g17.cell cb0_3
  replace cb4_0 := g17.cell cb4_0
  replace cb4_1 := g17.cell cb4_1
  replace cb4_2 := g17.cell cb4_2
  replace cb4_3 := g17.cell cb4_3
  replace cb6_0 := g17.cell cb6_0
  replace cb6_1 := g17.cell cb6_1
  replace cb6_2 := g17.cell cb6_2
  replace cb6_3 := g17.cell cb6_3
  replace cb7_0 := g17.cell cb7_0
  replace cb7_1 := g17.cell cb7_1
  replace cb7_2 := g17.cell cb7_2
  replace cb7_3 := g17.cell cb7_3
  have G17 := Lib.hid (G16.out.trans g17)
  have s17 := g17.size
  clear g17
  have O6 := Lib.hid o6
  clear o6
  have B6 := Lib.hid (own_bd O6.out)
  dsimp only
  go_wp2_with fail
  refine (iTickBy_any _ n0 _ t0 r0 p0 L0 a1 _ (rd_own (by decide) cCue_len O6.out) Hn0.out (by omega) (Nat.le_refl _) HW0.out).mono ?_
  rw [HX.out]
  rintro e w18 ⟨A7, c7, A7s, c7s, rfl, g18, o7, o7s, d7⟩
  dsimp only at o7 o7s
  have O1 := Lib.hid (own_G O1.out g18)
  have O2 := Lib.hid (own_G O2.out g18)
  have O2s := Lib.hid (own_G O2s.out g18)
  have O3 := Lib.hid (own_G O3.out g18)
  have O4 := Lib.hid (own_G O4.out g18)
  have O4s := Lib.hid (own_G O4s.out g18)
  have O6 := Lib.hid (own_G O6.out g18)
  replace cb0_0 := g18.cell cb0_0
  replace cb0_1 := g18.cell cb0_1
  replace cb0_2 := g18.cell cb0_2
  replace cb0_3 := g18.cell cb0_3
  replace cb4_0 := g18.cell cb4_0
  replace cb4_1 := g18.cell cb4_1
  replace cb4_2 := g18.cell cb4_2
  replace cb4_3 := g18.cell cb4_3
  replace cb6_0 := g18.cell cb6_0
  replace cb6_1 := g18.cell cb6_1
  replace cb6_2 := g18.cell cb6_2
  replace cb6_3 := g18.cell cb6_3
  replace cb7_0 := g18.cell cb7_0
  replace cb7_1 := g18.cell cb7_1
  replace cb7_2 := g18.cell cb7_2
  replace cb7_3 := g18.cell cb7_3
  have G18 := Lib.hid (G17.out.trans g18)
  have s18 := g18.size
  clear g18
  have O7 := Lib.hid o7
  clear o7
  have B7 := Lib.hid (own_bd O7.out)
  have O7s := Lib.hid o7s
  clear o7s
  have B7s := Lib.hid (own_bd O7s.out)
  have D7 := Lib.hid d7
  clear d7
  dsimp only
  have gx := (G.refl w18).alloc (.cells #[.slice A7 R.L.length c7, .int .i64 R.t, .int .i64 R.r, .bool R.p] 29)
  have bs_cb12 : (w18.alloc (.cells #[.slice A7 R.L.length c7, .int .i64 R.t, .int .i64 R.r, .bool R.p] 29)).heap.size = w18.heap.size + 1 := by simp
  have cb12_0 : (w18.alloc (.cells #[.slice A7 R.L.length c7, .int .i64 R.t, .int .i64 R.r, .bool R.p] 29)).cell? ⟨w18.heap.size, 0, none⟩ = some (.slice A7 R.L.length c7) := (World.cell?_alloc_at _ _ _ 0 rfl).trans rfl
  have cb12_1 : (w18.alloc (.cells #[.slice A7 R.L.length c7, .int .i64 R.t, .int .i64 R.r, .bool R.p] 29)).cell? ⟨w18.heap.size, 1, none⟩ = some (.int .i64 R.t) := (World.cell?_alloc_at _ _ _ 1 rfl).trans rfl
  have cb12_2 : (w18.alloc (.cells #[.slice A7 R.L.length c7, .int .i64 R.t, .int .i64 R.r, .bool R.p] 29)).cell? ⟨w18.heap.size, 2, none⟩ = some (.int .i64 R.r) := (World.cell?_alloc_at _ _ _ 2 rfl).trans rfl
  have cb12_3 : (w18.alloc (.cells #[.slice A7 R.L.length c7, .int .i64 R.t, .int .i64 R.r, .bool R.p] 29)).cell? ⟨w18.heap.size, 3, none⟩ = some (.bool R.p) := (World.cell?_alloc_at _ _ _ 3 rfl).trans rfl
  have O1 := Lib.hid (own_G O1.out gx)
  have O2 := Lib.hid (own_G O2.out gx)
  have O2s := Lib.hid (own_G O2s.out gx)
  have O3 := Lib.hid (own_G O3.out gx)
  have O4 := Lib.hid (own_G O4.out gx)
  have O4s := Lib.hid (own_G O4s.out gx)
  have O6 := Lib.hid (own_G O6.out gx)
  have O7 := Lib.hid (own_G O7.out gx)
  have O7s := Lib.hid (own_G O7s.out gx)
  replace cb0_0 := gx.cell cb0_0
  replace cb0_1 := gx.cell cb0_1
  replace cb0_2 := gx.cell cb0_2
  replace cb0_3 := gx.cell cb0_3
  replace cb4_0 := gx.cell cb4_0
  replace cb4_1 := gx.cell cb4_1
  replace cb4_2 := gx.cell cb4_2
  replace cb4_3 := gx.cell cb4_3
  replace cb6_0 := gx.cell cb6_0
  replace cb6_1 := gx.cell cb6_1
  replace cb6_2 := gx.cell cb6_2
  replace cb6_3 := gx.cell cb6_3
  replace cb7_0 := gx.cell cb7_0
  replace cb7_1 := gx.cell cb7_1
  replace cb7_2 := gx.cell cb7_2
  replace cb7_3 := gx.cell cb7_3
  have GX_cb12 := Lib.hid (G18.out.trans gx)
  clear gx
  go_wp2_with fail
  refine (eqPlayer_same _ _ R.L.length _ _ R.t R.r R.p R.L _ (rd_own (by decide) cCue_len O7.out) (rd_own (by decide) cCue_len O2.out) rfl (by omega)).mono ?_
  rintro e w19 ⟨rfl, g19⟩
  have O1 := Lib.hid (own_G O1.out g19)
  have O2 := Lib.hid (own_G O2.out g19)
  have O2s := Lib.hid (own_G O2s.out g19)
  have O3 := Lib.hid (own_G O3.out g19)
  have O4 := Lib.hid (own_G O4.out g19)
  have O4s := Lib.hid (own_G O4s.out g19)
  have O6 := Lib.hid (own_G O6.out g19)
  have O7 := Lib.hid (own_G O7.out g19)
  have O7s := Lib.hid (own_G O7s.out g19)
  replace cb0_0 := g19.cell cb0_0
  replace cb0_1 := g19.cell cb0_1
  replace cb0_2 := g19.cell cb0_2
  replace cb0_3 := g19.cell cb0_3
  replace cb4_0 := g19.cell cb4_0
  replace cb4_1 := g19.cell cb4_1
  replace cb4_2 := g19.cell cb4_2
  replace cb4_3 := g19.cell cb4_3
  replace cb6_0 := g19.cell cb6_0
  replace cb6_1 := g19.cell cb6_1
  replace cb6_2 := g19.cell cb6_2
  replace cb6_3 := g19.cell cb6_3
  replace cb7_0 := g19.cell cb7_0
  replace cb7_1 := g19.cell cb7_1
  replace cb7_2 := g19.cell cb7_2
  replace cb7_3 := g19.cell cb7_3
  replace cb12_0 := g19.cell cb12_0
  replace cb12_1 := g19.cell cb12_1
  replace cb12_2 := g19.cell cb12_2
  replace cb12_3 := g19.cell cb12_3
  have G19 := Lib.hid (GX_cb12.out.trans g19)
  have s19 := g19.size
  clear g19
  dsimp only
  go_wp2_with fail
  refine (eqStringS_same _ _ S.length _ _ S _ (rd_strs O7s.out) (rd_strs O2s.out) rfl (by omega)).mono ?_
  rintro e w20 ⟨rfl, g20⟩
  have O1 := Lib.hid (own_G O1.out g20)
  have O2 := Lib.hid (own_G O2.out g20)
  have O2s := Lib.hid (own_G O2s.out g20)
  have O3 := Lib.hid (own_G O3.out g20)
  have O4 := Lib.hid (own_G O4.out g20)
  have O4s := Lib.hid (own_G O4s.out g20)
  have O6 := Lib.hid (own_G O6.out g20)
  have O7 := Lib.hid (own_G O7.out g20)
  have O7s := Lib.hid (own_G O7s.out g20)
  replace cb0_0 := g20.cell cb0_0
  replace cb0_1 := g20.cell cb0_1
  replace cb0_2 := g20.cell cb0_2
  replace cb0_3 := g20.cell cb0_3
  replace cb4_0 := g20.cell cb4_0
  replace cb4_1 := g20.cell cb4_1
  replace cb4_2 := g20.cell cb4_2
  replace cb4_3 := g20.cell cb4_3
  replace cb6_0 := g20.cell cb6_0
  replace cb6_1 := g20.cell cb6_1
  replace cb6_2 := g20.cell cb6_2
  replace cb6_3 := g20.cell cb6_3
  replace cb7_0 := g20.cell cb7_0
  replace cb7_1 := g20.cell cb7_1
  replace cb7_2 := g20.cell cb7_2
  replace cb7_3 := g20.cell cb7_3
  replace cb12_0 := g20.cell cb12_0
  replace cb12_1 := g20.cell cb12_1
  replace cb12_2 := g20.cell cb12_2
  replace cb12_3 := g20.cell cb12_3
  have G20 := Lib.hid (G19.out.trans g20)
  have s20 := g20.size
  clear g20
  dsimp only
  go_wp2_with fail
  refine (heldPlayer_any _ R.L.length _ R.t R.r R.p 1 _ (rd_own (by decide) cCue_len O4.out) (by omega) (by omega) (by omega)).mono ?_
  rintro e w21 ⟨rfl, g21⟩
  have O1 := Lib.hid (own_G O1.out g21)
  have O2 := Lib.hid (own_G O2.out g21)
  have O2s := Lib.hid (own_G O2s.out g21)
  have O3 := Lib.hid (own_G O3.out g21)
  have O4 := Lib.hid (own_G O4.out g21)
  have O4s := Lib.hid (own_G O4s.out g21)
  have O6 := Lib.hid (own_G O6.out g21)
  have O7 := Lib.hid (own_G O7.out g21)
  have O7s := Lib.hid (own_G O7s.out g21)
  replace cb0_0 := g21.cell cb0_0
  replace cb0_1 := g21.cell cb0_1
  replace cb0_2 := g21.cell cb0_2
  replace cb0_3 := g21.cell cb0_3
  replace cb4_0 := g21.cell cb4_0
  replace cb4_1 := g21.cell cb4_1
  replace cb4_2 := g21.cell cb4_2
  replace cb4_3 := g21.cell cb4_3
  replace cb6_0 := g21.cell cb6_0
  replace cb6_1 := g21.cell cb6_1
  replace cb6_2 := g21.cell cb6_2
  replace cb6_3 := g21.cell cb6_3
  replace cb7_0 := g21.cell cb7_0
  replace cb7_1 := g21.cell cb7_1
  replace cb7_2 := g21.cell cb7_2
  replace cb7_3 := g21.cell cb7_3
  replace cb12_0 := g21.cell cb12_0
  replace cb12_1 := g21.cell cb12_1
  replace cb12_2 := g21.cell cb12_2
  replace cb12_3 := g21.cell cb12_3
  have G21 := Lib.hid (G20.out.trans g21)
  have s21 := g21.size
  clear g21
  dsimp only
  go_wp2_with fail
  refine (heldStringS_any _ S.length _ (1 + 6 * (R.L.length : Int)) _ (rd_strs O4s.out) (by omega) (by omega) (by omega)).mono ?_
  rintro e w22 ⟨rfl, g22⟩
  have O1 := Lib.hid (own_G O1.out g22)
  have O2 := Lib.hid (own_G O2.out g22)
  have O2s := Lib.hid (own_G O2s.out g22)
  have O3 := Lib.hid (own_G O3.out g22)
  have O4 := Lib.hid (own_G O4.out g22)
  have O4s := Lib.hid (own_G O4s.out g22)
  have O6 := Lib.hid (own_G O6.out g22)
  have O7 := Lib.hid (own_G O7.out g22)
  have O7s := Lib.hid (own_G O7s.out g22)
  replace cb0_0 := g22.cell cb0_0
  replace cb0_1 := g22.cell cb0_1
  replace cb0_2 := g22.cell cb0_2
  replace cb0_3 := g22.cell cb0_3
  replace cb4_0 := g22.cell cb4_0
  replace cb4_1 := g22.cell cb4_1
  replace cb4_2 := g22.cell cb4_2
  replace cb4_3 := g22.cell cb4_3
  replace cb6_0 := g22.cell cb6_0
  replace cb6_1 := g22.cell cb6_1
  replace cb6_2 := g22.cell cb6_2
  replace cb6_3 := g22.cell cb6_3
  replace cb7_0 := g22.cell cb7_0
  replace cb7_1 := g22.cell cb7_1
  replace cb7_2 := g22.cell cb7_2
  replace cb7_3 := g22.cell cb7_3
  replace cb12_0 := g22.cell cb12_0
  replace cb12_1 := g22.cell cb12_1
  replace cb12_2 := g22.cell cb12_2
  replace cb12_3 := g22.cell cb12_3
  have G22 := Lib.hid (G21.out.trans g22)
  have s22 := g22.size
  clear g22
  dsimp only
  go_wp2
  go_ret
  exact ⟨rfl, G22.out⟩
end Go.Proofs.Ytdpmnmhblnjhiaa
