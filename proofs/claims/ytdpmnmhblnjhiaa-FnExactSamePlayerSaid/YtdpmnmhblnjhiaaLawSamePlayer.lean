/-
  The law of SamePlayer, walked.
-/
import Derived.Test.YtdpmnmhblnjhiaaSamePl
import Derived.Test.YtdpmnmhblnjhiaaOpPlayer
namespace Go.Proofs.Ytdpmnmhblnjhiaa
open Go.RowKit
attribute [local go_sem ↓] Go.wp_at_zero Go.wp_at_succ

set_option maxRecDepth 20000 in
set_option maxHeartbeats 8000000 in
theorem lawSamePlayer (v0 : Value) (z0 : SPl) (v1 : Value) (z1 : SPl) (w : World) (h0 : ArgPl w v0 z0) (h1 : ArgPl w v1 z1) :
    Calls Try.prog 3 #[v0, v1] w fun e w' => e = .returned (.bool true) ∧ Below w.heap.size w w' := by
  obtain ⟨rfl, ⟨hm0, hn0, hr0, hw0⟩, _, _⟩ := h0
  obtain ⟨A0, n0, c0, t0, r0, p0, L0⟩ := z0
  obtain ⟨rfl, ⟨hm1, hn1, hr1, hw1⟩, _, _⟩ := h1
  obtain ⟨A1, n1, c1, t1, r1, p1, L1⟩ := z1
  simp only at hm0 hn0 hr0 hw0 hm1 hn1 hr1 hw1
  have Hn0 := Lib.hid hn0
  have HR0 := Lib.hid hr0
  unfold maxLen at hm0
  have q0 := tot_nonneg szCue szCue_nonneg L0
  have HQ0 : Hid (n0 ≤ maxLen) := Lib.hid (by unfold maxLen; omega)
  have Hn1 := Lib.hid hn1
  have HR1 := Lib.hid hr1
  unfold maxLen at hm1
  have q1 := tot_nonneg szCue szCue_nonneg L1
  have HQ1 : Hid (n1 ≤ maxLen) := Lib.hid (by unfold maxLen; omega)
  have B0 := Lib.hid (((G.refl w).alloc (.cells #[.slice A0 n0 c0, .int .i64 t0, .int .i64 r0, .bool p0] 24)).alloc (.cells #[.slice A1 n1 c1, .int .i64 t1, .int .i64 r1, .bool p1] 24))
  have KS0 := Lib.hid (fun (W : World) (g : G w W) => szPlayer_any A0 n0 c0 t0 r0 p0 L0 1048576 W (hr0.G g) hn0 hw0 HQ0.out (by omega) (by omega))
  have cb0_0 : ((w.alloc (.cells #[.slice A0 n0 c0, .int .i64 t0, .int .i64 r0, .bool p0] 24)).alloc (.cells #[.slice A1 n1 c1, .int .i64 t1, .int .i64 r1, .bool p1] 24)).cell? ⟨w.heap.size, 0, none⟩ = some (.slice A0 n0 c0) := ((G.refl (w.alloc (.cells #[.slice A0 n0 c0, .int .i64 t0, .int .i64 r0, .bool p0] 24))).alloc (.cells #[.slice A1 n1 c1, .int .i64 t1, .int .i64 r1, .bool p1] 24)).cell ((World.cell?_alloc_at _ _ _ 0 rfl).trans rfl)
  have cb0_1 : ((w.alloc (.cells #[.slice A0 n0 c0, .int .i64 t0, .int .i64 r0, .bool p0] 24)).alloc (.cells #[.slice A1 n1 c1, .int .i64 t1, .int .i64 r1, .bool p1] 24)).cell? ⟨w.heap.size, 1, none⟩ = some (.int .i64 t0) := ((G.refl (w.alloc (.cells #[.slice A0 n0 c0, .int .i64 t0, .int .i64 r0, .bool p0] 24))).alloc (.cells #[.slice A1 n1 c1, .int .i64 t1, .int .i64 r1, .bool p1] 24)).cell ((World.cell?_alloc_at _ _ _ 1 rfl).trans rfl)
  have cb0_2 : ((w.alloc (.cells #[.slice A0 n0 c0, .int .i64 t0, .int .i64 r0, .bool p0] 24)).alloc (.cells #[.slice A1 n1 c1, .int .i64 t1, .int .i64 r1, .bool p1] 24)).cell? ⟨w.heap.size, 2, none⟩ = some (.int .i64 r0) := ((G.refl (w.alloc (.cells #[.slice A0 n0 c0, .int .i64 t0, .int .i64 r0, .bool p0] 24))).alloc (.cells #[.slice A1 n1 c1, .int .i64 t1, .int .i64 r1, .bool p1] 24)).cell ((World.cell?_alloc_at _ _ _ 2 rfl).trans rfl)
  have cb0_3 : ((w.alloc (.cells #[.slice A0 n0 c0, .int .i64 t0, .int .i64 r0, .bool p0] 24)).alloc (.cells #[.slice A1 n1 c1, .int .i64 t1, .int .i64 r1, .bool p1] 24)).cell? ⟨w.heap.size, 3, none⟩ = some (.bool p0) := ((G.refl (w.alloc (.cells #[.slice A0 n0 c0, .int .i64 t0, .int .i64 r0, .bool p0] 24))).alloc (.cells #[.slice A1 n1 c1, .int .i64 t1, .int .i64 r1, .bool p1] 24)).cell ((World.cell?_alloc_at _ _ _ 3 rfl).trans rfl)
  have cb1_0 : ((w.alloc (.cells #[.slice A0 n0 c0, .int .i64 t0, .int .i64 r0, .bool p0] 24)).alloc (.cells #[.slice A1 n1 c1, .int .i64 t1, .int .i64 r1, .bool p1] 24)).cell? ⟨w.heap.size + 1, 0, none⟩ = some (.slice A1 n1 c1) := (World.cell?_alloc_at _ _ _ 0 (by simp)).trans rfl
  have cb1_1 : ((w.alloc (.cells #[.slice A0 n0 c0, .int .i64 t0, .int .i64 r0, .bool p0] 24)).alloc (.cells #[.slice A1 n1 c1, .int .i64 t1, .int .i64 r1, .bool p1] 24)).cell? ⟨w.heap.size + 1, 1, none⟩ = some (.int .i64 t1) := (World.cell?_alloc_at _ _ _ 1 (by simp)).trans rfl
  have cb1_2 : ((w.alloc (.cells #[.slice A0 n0 c0, .int .i64 t0, .int .i64 r0, .bool p0] 24)).alloc (.cells #[.slice A1 n1 c1, .int .i64 t1, .int .i64 r1, .bool p1] 24)).cell? ⟨w.heap.size + 1, 2, none⟩ = some (.int .i64 r1) := (World.cell?_alloc_at _ _ _ 2 (by simp)).trans rfl
  have cb1_3 : ((w.alloc (.cells #[.slice A0 n0 c0, .int .i64 t0, .int .i64 r0, .bool p0] 24)).alloc (.cells #[.slice A1 n1 c1, .int .i64 t1, .int .i64 r1, .bool p1] 24)).cell? ⟨w.heap.size + 1, 3, none⟩ = some (.bool p1) := (World.cell?_alloc_at _ _ _ 3 (by simp)).trans rfl
  clear hn0 hr0 hw0
  unfold pV
  by_cases q : (1048576 : Int) - n0 - tot szCue L0 < 0
  case pos =>
    have HZ := Lib.hid (szR_neg q)
    go_enter Try.func3, Try.ntmps3
    go_wp2_with fail
    refine (KS0.out _ B0.out).mono ?_
    rintro e w1 ⟨rfl, g1⟩
    replace cb0_0 := g1.cell cb0_0
    replace cb0_1 := g1.cell cb0_1
    replace cb0_2 := g1.cell cb0_2
    replace cb0_3 := g1.cell cb0_3
    replace cb1_0 := g1.cell cb1_0
    replace cb1_1 := g1.cell cb1_1
    replace cb1_2 := g1.cell cb1_2
    replace cb1_3 := g1.cell cb1_3
    have G1 := Lib.hid (B0.out.trans g1)
    clear g1
    rw [HZ.out]
    dsimp only
    go_wp2
    go_ret
    exact ⟨rfl, G1.out⟩
  have HZ0 := Lib.hid (szR_pos (y := (1048576 : Int) - n0 - tot szCue L0) (by omega))
  have hb0 : n0 ≤ 1048576 := by omega
  obtain ⟨y, HY⟩ : ∃ y, Hid ((1048576 : Int) - n0 - tot szCue L0 = y) := ⟨_, rfl⟩
  have hy0 : 0 ≤ y := by rw [← HY.out]; omega
  have hy1 : y ≤ 1048576 := by rw [← HY.out]; omega
  rw [HY.out] at HZ0
  rw [HY.out] at KS0
  have KS1 := Lib.hid (fun (W : World) (g : G w W) => szPlayer_any A1 n1 c1 t1 r1 p1 L1 y W (hr1.G g) hn1 hw1 HQ1.out (by omega) (by omega))
  clear hn1 hr1 hw1 q
  by_cases q : y - n1 - tot szCue L1 < 0
  case pos =>
    have HZ := Lib.hid (szR_neg q)
    go_enter Try.func3, Try.ntmps3
    go_wp2_with fail
    refine (KS0.out _ B0.out).mono ?_
    rintro e w1 ⟨rfl, g1⟩
    replace cb0_0 := g1.cell cb0_0
    replace cb0_1 := g1.cell cb0_1
    replace cb0_2 := g1.cell cb0_2
    replace cb0_3 := g1.cell cb0_3
    replace cb1_0 := g1.cell cb1_0
    replace cb1_1 := g1.cell cb1_1
    replace cb1_2 := g1.cell cb1_2
    replace cb1_3 := g1.cell cb1_3
    have G1 := Lib.hid (B0.out.trans g1)
    clear g1
    rw [HZ0.out]
    dsimp only
    go_wp2_with fail
    refine (KS1.out _ G1.out).mono ?_
    rintro e w2 ⟨rfl, g2⟩
    replace cb0_0 := g2.cell cb0_0
    replace cb0_1 := g2.cell cb0_1
    replace cb0_2 := g2.cell cb0_2
    replace cb0_3 := g2.cell cb0_3
    replace cb1_0 := g2.cell cb1_0
    replace cb1_1 := g2.cell cb1_1
    replace cb1_2 := g2.cell cb1_2
    replace cb1_3 := g2.cell cb1_3
    have G2 := Lib.hid (G1.out.trans g2)
    clear g2
    rw [HZ.out]
    dsimp only
    go_wp2
    go_ret
    exact ⟨rfl, G2.out⟩
  have HZ1 := Lib.hid (szR_pos (y := y - n1 - tot szCue L1) (by omega))
  have hb1 : n1 ≤ 1048576 := by omega
  obtain ⟨R, HX⟩ : ∃ R, Hid (samePl L0 L1 t0 t1 r0 r1 p0 p1 = R) := ⟨_, rfl⟩
  have KT0 := Lib.hid (fun (W : World) (g : G w W) => toPlayer_any A0 n0 c0 t0 r0 p0 L0 W (HR0.out.G g) Hn0.out hb0)
  have KT1 := Lib.hid (fun (W : World) (g : G w W) => toPlayer_any A1 n1 c1 t1 r1 p1 L1 W (HR1.out.G g) Hn1.out hb1)
  go_enter Try.func3, Try.ntmps3
  go_wp2_with fail
  refine (KS0.out _ B0.out).mono ?_
  rintro e w1 ⟨rfl, g1⟩
  replace cb0_0 := g1.cell cb0_0
  replace cb0_1 := g1.cell cb0_1
  replace cb0_2 := g1.cell cb0_2
  replace cb0_3 := g1.cell cb0_3
  replace cb1_0 := g1.cell cb1_0
  replace cb1_1 := g1.cell cb1_1
  replace cb1_2 := g1.cell cb1_2
  replace cb1_3 := g1.cell cb1_3
  have G1 := Lib.hid (B0.out.trans g1)
  clear g1
  rw [HZ0.out]
  dsimp only
  go_wp2_with fail
  refine (KS1.out _ G1.out).mono ?_
  rintro e w2 ⟨rfl, g2⟩
  replace cb0_0 := g2.cell cb0_0
  replace cb0_1 := g2.cell cb0_1
  replace cb0_2 := g2.cell cb0_2
  replace cb0_3 := g2.cell cb0_3
  replace cb1_0 := g2.cell cb1_0
  replace cb1_1 := g2.cell cb1_1
  replace cb1_2 := g2.cell cb1_2
  replace cb1_3 := g2.cell cb1_3
  have G2 := Lib.hid (G1.out.trans g2)
  clear g2
  rw [HZ1.out]
  dsimp only
  go_wp2_with fail
  go_region_held3 (fun w' => w'.cell? ⟨w.heap.size, 0, none⟩ = some (.slice A0 n0 c0) ∧ w'.cell? ⟨w.heap.size, 1, none⟩ = some (.int .i64 t0) ∧ w'.cell? ⟨w.heap.size, 2, none⟩ = some (.int .i64 r0) ∧ w'.cell? ⟨w.heap.size, 3, none⟩ = some (.bool p0) ∧ w'.cell? ⟨w.heap.size + 1, 0, none⟩ = some (.slice A1 n1 c1) ∧ w'.cell? ⟨w.heap.size + 1, 1, none⟩ = some (.int .i64 t1) ∧ w'.cell? ⟨w.heap.size + 1, 2, none⟩ = some (.int .i64 r1) ∧ w'.cell? ⟨w.heap.size + 1, 3, none⟩ = some (.bool p1)) (first | go_keep | exact ⟨cb0_0, cb0_1, cb0_2, cb0_3, cb1_0, cb1_1, cb1_2, cb1_3⟩) (first | (go_at_call 16; (with_reducible refine (KT0.out _ ?hq).mono ?_); (case hq => exact G2.out.drew); rintro e w3 ⟨b1, rfl, hb1', hl1, g3, o1⟩; replace cb0_0 := g3.cell cb0_0; replace cb0_1 := g3.cell cb0_1; replace cb0_2 := g3.cell cb0_2; replace cb0_3 := g3.cell cb0_3; replace cb1_0 := g3.cell cb1_0; replace cb1_1 := g3.cell cb1_1; replace cb1_2 := g3.cell cb1_2; replace cb1_3 := g3.cell cb1_3; have O1 := Lib.hid o1; clear o1; have G3 := Lib.hid (G2.out.drew.trans g3); clear g3) | (go_at_call 16; (with_reducible refine (KT1.out _ ?hq).mono ?_); (case hq => exact G3.out); rintro e w4 ⟨b2, rfl, hb2', hl2, g4, o2⟩; have O1 := Lib.hid (own_G O1.out g4); replace cb0_0 := g4.cell cb0_0; replace cb0_1 := g4.cell cb0_1; replace cb0_2 := g4.cell cb0_2; replace cb0_3 := g4.cell cb0_3; replace cb1_0 := g4.cell cb1_0; replace cb1_1 := g4.cell cb1_1; replace cb1_2 := g4.cell cb1_2; replace cb1_3 := g4.cell cb1_3; have O2 := Lib.hid o2; clear o2; have G4 := Lib.hid (G3.out.trans g4); clear g4) | (go_at_call 15; refine (sSamePlayer_any _ _ n0 _ n1 _ t0 r0 t1 r1 p0 p1 L0 L1 _ (rd_own (by decide) cCue_len O1.out) Hn0.out (by omega) (rd_own (by decide) cCue_len O2.out) Hn1.out (by omega)).mono ?_; rintro e w5 ⟨rfl, g5⟩; have O1 := Lib.hid (own_G O1.out g5); have O2 := Lib.hid (own_G O2.out g5); replace cb0_0 := g5.cell cb0_0; replace cb0_1 := g5.cell cb0_1; replace cb0_2 := g5.cell cb0_2; replace cb0_3 := g5.cell cb0_3; replace cb1_0 := g5.cell cb1_0; replace cb1_1 := g5.cell cb1_1; replace cb1_2 := g5.cell cb1_2; replace cb1_3 := g5.cell cb1_3; have G5 := Lib.hid (G4.out.trans g5); clear g5))
  rw [HX.out]
  go_wp2_with fail
  refine (KT0.out _ G5.out).mono ?_
  rintro e w6 ⟨b3, rfl, hb3', hl3, g6, o3⟩
  have O1 := Lib.hid (own_G O1.out g6)
  have O2 := Lib.hid (own_G O2.out g6)
  replace cb0_0 := g6.cell cb0_0
  replace cb0_1 := g6.cell cb0_1
  replace cb0_2 := g6.cell cb0_2
  replace cb0_3 := g6.cell cb0_3
  replace cb1_0 := g6.cell cb1_0
  replace cb1_1 := g6.cell cb1_1
  replace cb1_2 := g6.cell cb1_2
  replace cb1_3 := g6.cell cb1_3
  have G6 := Lib.hid (G5.out.trans g6)
  clear g6
  have O3 := Lib.hid o3
  clear o3
  dsimp only
  have gx := (G.refl w6).alloc (.cells #[.slice (some ⟨b3, 0, none⟩) n0 n0, .int .i64 t0, .int .i64 r0, .bool p0] 29)
  have cb7_0 : (w6.alloc (.cells #[.slice (some ⟨b3, 0, none⟩) n0 n0, .int .i64 t0, .int .i64 r0, .bool p0] 29)).cell? ⟨w6.heap.size, 0, none⟩ = some (.slice (some ⟨b3, 0, none⟩) n0 n0) := (World.cell?_alloc_at _ _ _ 0 rfl).trans rfl
  have cb7_1 : (w6.alloc (.cells #[.slice (some ⟨b3, 0, none⟩) n0 n0, .int .i64 t0, .int .i64 r0, .bool p0] 29)).cell? ⟨w6.heap.size, 1, none⟩ = some (.int .i64 t0) := (World.cell?_alloc_at _ _ _ 1 rfl).trans rfl
  have cb7_2 : (w6.alloc (.cells #[.slice (some ⟨b3, 0, none⟩) n0 n0, .int .i64 t0, .int .i64 r0, .bool p0] 29)).cell? ⟨w6.heap.size, 2, none⟩ = some (.int .i64 r0) := (World.cell?_alloc_at _ _ _ 2 rfl).trans rfl
  have cb7_3 : (w6.alloc (.cells #[.slice (some ⟨b3, 0, none⟩) n0 n0, .int .i64 t0, .int .i64 r0, .bool p0] 29)).cell? ⟨w6.heap.size, 3, none⟩ = some (.bool p0) := (World.cell?_alloc_at _ _ _ 3 rfl).trans rfl
  have O1 := Lib.hid (own_G O1.out gx)
  have O2 := Lib.hid (own_G O2.out gx)
  have O3 := Lib.hid (own_G O3.out gx)
  replace cb0_0 := gx.cell cb0_0
  replace cb0_1 := gx.cell cb0_1
  replace cb0_2 := gx.cell cb0_2
  replace cb0_3 := gx.cell cb0_3
  replace cb1_0 := gx.cell cb1_0
  replace cb1_1 := gx.cell cb1_1
  replace cb1_2 := gx.cell cb1_2
  replace cb1_3 := gx.cell cb1_3
  have GX_cb7 := Lib.hid (G6.out.trans gx)
  clear gx
  go_wp2_with fail
  refine (KT1.out _ GX_cb7.out).mono ?_
  rintro e w7 ⟨b4, rfl, hb4', hl4, g7, o4⟩
  have O1 := Lib.hid (own_G O1.out g7)
  have O2 := Lib.hid (own_G O2.out g7)
  have O3 := Lib.hid (own_G O3.out g7)
  replace cb0_0 := g7.cell cb0_0
  replace cb0_1 := g7.cell cb0_1
  replace cb0_2 := g7.cell cb0_2
  replace cb0_3 := g7.cell cb0_3
  replace cb1_0 := g7.cell cb1_0
  replace cb1_1 := g7.cell cb1_1
  replace cb1_2 := g7.cell cb1_2
  replace cb1_3 := g7.cell cb1_3
  replace cb7_0 := g7.cell cb7_0
  replace cb7_1 := g7.cell cb7_1
  replace cb7_2 := g7.cell cb7_2
  replace cb7_3 := g7.cell cb7_3
  have G7 := Lib.hid (GX_cb7.out.trans g7)
  clear g7
  have O4 := Lib.hid o4
  clear o4
  dsimp only
  have gx := (G.refl w7).alloc (.cells #[.slice (some ⟨b4, 0, none⟩) n1 n1, .int .i64 t1, .int .i64 r1, .bool p1] 29)
  have cb8_0 : (w7.alloc (.cells #[.slice (some ⟨b4, 0, none⟩) n1 n1, .int .i64 t1, .int .i64 r1, .bool p1] 29)).cell? ⟨w7.heap.size, 0, none⟩ = some (.slice (some ⟨b4, 0, none⟩) n1 n1) := (World.cell?_alloc_at _ _ _ 0 rfl).trans rfl
  have cb8_1 : (w7.alloc (.cells #[.slice (some ⟨b4, 0, none⟩) n1 n1, .int .i64 t1, .int .i64 r1, .bool p1] 29)).cell? ⟨w7.heap.size, 1, none⟩ = some (.int .i64 t1) := (World.cell?_alloc_at _ _ _ 1 rfl).trans rfl
  have cb8_2 : (w7.alloc (.cells #[.slice (some ⟨b4, 0, none⟩) n1 n1, .int .i64 t1, .int .i64 r1, .bool p1] 29)).cell? ⟨w7.heap.size, 2, none⟩ = some (.int .i64 r1) := (World.cell?_alloc_at _ _ _ 2 rfl).trans rfl
  have cb8_3 : (w7.alloc (.cells #[.slice (some ⟨b4, 0, none⟩) n1 n1, .int .i64 t1, .int .i64 r1, .bool p1] 29)).cell? ⟨w7.heap.size, 3, none⟩ = some (.bool p1) := (World.cell?_alloc_at _ _ _ 3 rfl).trans rfl
  have O1 := Lib.hid (own_G O1.out gx)
  have O2 := Lib.hid (own_G O2.out gx)
  have O3 := Lib.hid (own_G O3.out gx)
  have O4 := Lib.hid (own_G O4.out gx)
  replace cb0_0 := gx.cell cb0_0
  replace cb0_1 := gx.cell cb0_1
  replace cb0_2 := gx.cell cb0_2
  replace cb0_3 := gx.cell cb0_3
  replace cb1_0 := gx.cell cb1_0
  replace cb1_1 := gx.cell cb1_1
  replace cb1_2 := gx.cell cb1_2
  replace cb1_3 := gx.cell cb1_3
  replace cb7_0 := gx.cell cb7_0
  replace cb7_1 := gx.cell cb7_1
  replace cb7_2 := gx.cell cb7_2
  replace cb7_3 := gx.cell cb7_3
  have GX_cb8 := Lib.hid (G7.out.trans gx)
  clear gx
  go_wp2_with fail
  refine (iSamePlayer_any _ _ n0 _ n1 _ t0 r0 t1 r1 p0 p1 L0 L1 _ (rd_own (by decide) cCue_len O3.out) Hn0.out (by omega) (rd_own (by decide) cCue_len O4.out) Hn1.out (by omega)).mono ?_
  rintro e w8 ⟨rfl, g8⟩
  have O1 := Lib.hid (own_G O1.out g8)
  have O2 := Lib.hid (own_G O2.out g8)
  have O3 := Lib.hid (own_G O3.out g8)
  have O4 := Lib.hid (own_G O4.out g8)
  replace cb0_0 := g8.cell cb0_0
  replace cb0_1 := g8.cell cb0_1
  replace cb0_2 := g8.cell cb0_2
  replace cb0_3 := g8.cell cb0_3
  replace cb1_0 := g8.cell cb1_0
  replace cb1_1 := g8.cell cb1_1
  replace cb1_2 := g8.cell cb1_2
  replace cb1_3 := g8.cell cb1_3
  replace cb7_0 := g8.cell cb7_0
  replace cb7_1 := g8.cell cb7_1
  replace cb7_2 := g8.cell cb7_2
  replace cb7_3 := g8.cell cb7_3
  replace cb8_0 := g8.cell cb8_0
  replace cb8_1 := g8.cell cb8_1
  replace cb8_2 := g8.cell cb8_2
  replace cb8_3 := g8.cell cb8_3
  have G8 := Lib.hid (GX_cb8.out.trans g8)
  clear g8
  rw [HX.out]
  dsimp only
  go_wp2_with fail
  go_region_held3 (fun w' => w'.cell? ⟨w.heap.size, 0, none⟩ = some (.slice A0 n0 c0) ∧ w'.cell? ⟨w.heap.size, 1, none⟩ = some (.int .i64 t0) ∧ w'.cell? ⟨w.heap.size, 2, none⟩ = some (.int .i64 r0) ∧ w'.cell? ⟨w.heap.size, 3, none⟩ = some (.bool p0) ∧ w'.cell? ⟨w6.heap.size, 0, none⟩ = some (.slice (some ⟨b3, 0, none⟩) n0 n0) ∧ w'.cell? ⟨w6.heap.size, 1, none⟩ = some (.int .i64 t0) ∧ w'.cell? ⟨w6.heap.size, 2, none⟩ = some (.int .i64 r0) ∧ w'.cell? ⟨w6.heap.size, 3, none⟩ = some (.bool p0)) (first | go_keep | exact ⟨cb0_0, cb0_1, cb0_2, cb0_3, cb7_0, cb7_1, cb7_2, cb7_3⟩) (first | (go_at_call 16; refine (KT0.out _ ?hq).mono ?_; (case hq => exact G8.out.drew); rintro e w9 ⟨b5, rfl, hb5', hl5, g9, o5⟩; have O1 := Lib.hid (own_G (w := w8.drew) O1.out g9); have O2 := Lib.hid (own_G (w := w8.drew) O2.out g9); have O3 := Lib.hid (own_G (w := w8.drew) O3.out g9); have O4 := Lib.hid (own_G (w := w8.drew) O4.out g9); replace cb0_0 := g9.cell cb0_0; replace cb0_1 := g9.cell cb0_1; replace cb0_2 := g9.cell cb0_2; replace cb0_3 := g9.cell cb0_3; replace cb1_0 := g9.cell cb1_0; replace cb1_1 := g9.cell cb1_1; replace cb1_2 := g9.cell cb1_2; replace cb1_3 := g9.cell cb1_3; replace cb7_0 := g9.cell cb7_0; replace cb7_1 := g9.cell cb7_1; replace cb7_2 := g9.cell cb7_2; replace cb7_3 := g9.cell cb7_3; replace cb8_0 := g9.cell cb8_0; replace cb8_1 := g9.cell cb8_1; replace cb8_2 := g9.cell cb8_2; replace cb8_3 := g9.cell cb8_3; have O5 := Lib.hid o5; clear o5; have G9 := Lib.hid (G8.out.drew.trans g9); clear g9) | (go_at_call 18; refine (eqPlayer_same _ _ n0 _ _ t0 r0 p0 L0 _ (rd_own (by decide) cCue_len O3.out) (rd_own (by decide) cCue_len O5.out) Hn0.out (by omega)).mono ?_; rintro e w10 ⟨rfl, g10⟩; have O1 := Lib.hid (own_G O1.out g10); have O2 := Lib.hid (own_G O2.out g10); have O3 := Lib.hid (own_G O3.out g10); have O4 := Lib.hid (own_G O4.out g10); have O5 := Lib.hid (own_G O5.out g10); replace cb0_0 := g10.cell cb0_0; replace cb0_1 := g10.cell cb0_1; replace cb0_2 := g10.cell cb0_2; replace cb0_3 := g10.cell cb0_3; replace cb1_0 := g10.cell cb1_0; replace cb1_1 := g10.cell cb1_1; replace cb1_2 := g10.cell cb1_2; replace cb1_3 := g10.cell cb1_3; replace cb7_0 := g10.cell cb7_0; replace cb7_1 := g10.cell cb7_1; replace cb7_2 := g10.cell cb7_2; replace cb7_3 := g10.cell cb7_3; replace cb8_0 := g10.cell cb8_0; replace cb8_1 := g10.cell cb8_1; replace cb8_2 := g10.cell cb8_2; replace cb8_3 := g10.cell cb8_3; have G10 := Lib.hid (G9.out.trans g10); clear g10))
  go_wp2_with fail
  go_region_held3 (fun w' => w'.cell? ⟨w.heap.size + 1, 0, none⟩ = some (.slice A1 n1 c1) ∧ w'.cell? ⟨w.heap.size + 1, 1, none⟩ = some (.int .i64 t1) ∧ w'.cell? ⟨w.heap.size + 1, 2, none⟩ = some (.int .i64 r1) ∧ w'.cell? ⟨w.heap.size + 1, 3, none⟩ = some (.bool p1) ∧ w'.cell? ⟨w7.heap.size, 0, none⟩ = some (.slice (some ⟨b4, 0, none⟩) n1 n1) ∧ w'.cell? ⟨w7.heap.size, 1, none⟩ = some (.int .i64 t1) ∧ w'.cell? ⟨w7.heap.size, 2, none⟩ = some (.int .i64 r1) ∧ w'.cell? ⟨w7.heap.size, 3, none⟩ = some (.bool p1)) (first | go_keep | exact ⟨cb1_0, cb1_1, cb1_2, cb1_3, cb8_0, cb8_1, cb8_2, cb8_3⟩) (first | (go_at_call 16; refine (KT1.out _ ?hq).mono ?_; (case hq => exact G10.out.drew); rintro e w11 ⟨b6, rfl, hb6', hl6, g11, o6⟩; have O1 := Lib.hid (own_G (w := w10.drew) O1.out g11); have O2 := Lib.hid (own_G (w := w10.drew) O2.out g11); have O3 := Lib.hid (own_G (w := w10.drew) O3.out g11); have O4 := Lib.hid (own_G (w := w10.drew) O4.out g11); have O5 := Lib.hid (own_G (w := w10.drew) O5.out g11); replace cb0_0 := g11.cell cb0_0; replace cb0_1 := g11.cell cb0_1; replace cb0_2 := g11.cell cb0_2; replace cb0_3 := g11.cell cb0_3; replace cb1_0 := g11.cell cb1_0; replace cb1_1 := g11.cell cb1_1; replace cb1_2 := g11.cell cb1_2; replace cb1_3 := g11.cell cb1_3; replace cb7_0 := g11.cell cb7_0; replace cb7_1 := g11.cell cb7_1; replace cb7_2 := g11.cell cb7_2; replace cb7_3 := g11.cell cb7_3; replace cb8_0 := g11.cell cb8_0; replace cb8_1 := g11.cell cb8_1; replace cb8_2 := g11.cell cb8_2; replace cb8_3 := g11.cell cb8_3; have O6 := Lib.hid o6; clear o6; have G11 := Lib.hid (G10.out.drew.trans g11); clear g11) | (go_at_call 18; refine (eqPlayer_same _ _ n1 _ _ t1 r1 p1 L1 _ (rd_own (by decide) cCue_len O4.out) (rd_own (by decide) cCue_len O6.out) Hn1.out (by omega)).mono ?_; rintro e w12 ⟨rfl, g12⟩; have O1 := Lib.hid (own_G O1.out g12); have O2 := Lib.hid (own_G O2.out g12); have O3 := Lib.hid (own_G O3.out g12); have O4 := Lib.hid (own_G O4.out g12); have O5 := Lib.hid (own_G O5.out g12); have O6 := Lib.hid (own_G O6.out g12); replace cb0_0 := g12.cell cb0_0; replace cb0_1 := g12.cell cb0_1; replace cb0_2 := g12.cell cb0_2; replace cb0_3 := g12.cell cb0_3; replace cb1_0 := g12.cell cb1_0; replace cb1_1 := g12.cell cb1_1; replace cb1_2 := g12.cell cb1_2; replace cb1_3 := g12.cell cb1_3; replace cb7_0 := g12.cell cb7_0; replace cb7_1 := g12.cell cb7_1; replace cb7_2 := g12.cell cb7_2; replace cb7_3 := g12.cell cb7_3; replace cb8_0 := g12.cell cb8_0; replace cb8_1 := g12.cell cb8_1; replace cb8_2 := g12.cell cb8_2; replace cb8_3 := g12.cell cb8_3; have G12 := Lib.hid (G11.out.trans g12); clear g12))
  go_wp2
  go_ret
  exact ⟨rfl, G12.out⟩
end Go.Proofs.Ytdpmnmhblnjhiaa
