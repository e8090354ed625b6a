/-
  The law of PlayerText, walked.
-/
import Derived.Test.YtecakcgkibemaaaDoorPlText
import Derived.Test.YtecakcgkibemaaaDoorOpPlayer
namespace Go.Proofs.YtecakcgkibemaaaDoor
open Go.RowKit
attribute [local go_sem ↓] Go.wp_at_zero Go.wp_at_succ

set_option maxRecDepth 20000 in
set_option maxHeartbeats 4000000 in
theorem lawPlayerText (v0 : Value) (z0 : SPl) (w : World) (htp : TabP w) (h0 : ArgPl w v0 z0) :
    Calls Tryd.prog 3 #[v0] w fun e w' => e = .returned (.bool true) ∧ Below w.heap.size w w' := by
  have HTP := Lib.hid htp
  clear htp
  obtain ⟨rfl, ⟨hm, hn, hr, hw⟩, hwt, hwr⟩ := h0
  obtain ⟨A0, n0, c0, t0, r0, p0, L0⟩ := z0
  simp only at hm hn hr hw hwt hwr
  have HW0 := Lib.hid hw
  have Hn0 := Lib.hid hn
  have HR0 := Lib.hid hr
  unfold maxLen at hm
  have B0 := Lib.hid ((G.refl w).alloc (.cells #[.slice A0 n0 c0, .int .i64 t0, .int .i64 r0, .bool p0] 24))
  have q0 := tot_nonneg szCue szCue_nonneg L0
  have HQ : Hid (n0 ≤ maxLen) := Lib.hid (by unfold maxLen; omega)
  have KS := Lib.hid (fun (W : World) (g : G w W) => szPlayer_any A0 n0 c0 t0 r0 p0 L0 1048576 W (hr.G g) hn hw HQ.out (by omega) (by omega))
  have cb0_0 : (w.alloc (.cells #[.slice A0 n0 c0, .int .i64 t0, .int .i64 r0, .bool p0] 24)).cell? ⟨w.heap.size, 0, none⟩ = some (.slice A0 n0 c0) := (World.cell?_alloc_at _ _ _ 0 rfl).trans rfl
  have cb0_1 : (w.alloc (.cells #[.slice A0 n0 c0, .int .i64 t0, .int .i64 r0, .bool p0] 24)).cell? ⟨w.heap.size, 1, none⟩ = some (.int .i64 t0) := (World.cell?_alloc_at _ _ _ 1 rfl).trans rfl
  have cb0_2 : (w.alloc (.cells #[.slice A0 n0 c0, .int .i64 t0, .int .i64 r0, .bool p0] 24)).cell? ⟨w.heap.size, 2, none⟩ = some (.int .i64 r0) := (World.cell?_alloc_at _ _ _ 2 rfl).trans rfl
  have cb0_3 : (w.alloc (.cells #[.slice A0 n0 c0, .int .i64 t0, .int .i64 r0, .bool p0] 24)).cell? ⟨w.heap.size, 3, none⟩ = some (.bool p0) := (World.cell?_alloc_at _ _ _ 3 rfl).trans rfl
  clear hn hr hw hwt hwr
  unfold pV
  by_cases q : (1048576 : Int) - n0 - tot szCue L0 < 0
  case pos =>
    have HZ := Lib.hid (szR_neg q)
    go_enter Tryd.func3, Tryd.ntmps3
    go_wp2_with fail
    refine (KS.out _ B0.out).mono ?_
    rintro e w1 ⟨rfl, g1⟩
    replace cb0_0 := g1.cell cb0_0
    replace cb0_1 := g1.cell cb0_1
    replace cb0_2 := g1.cell cb0_2
    replace cb0_3 := g1.cell cb0_3
    have G1 := Lib.hid (B0.out.trans g1)
    clear g1
    rw [HZ.out]
    dsimp only
    go_wp2
    go_ret
    exact ⟨rfl, G1.out⟩
  have HZ := Lib.hid (szR_pos (y := (1048576 : Int) - n0 - tot szCue L0) (by omega))
  have hb : n0 ≤ 1048576 := by omega
  obtain ⟨R, HX⟩ : ∃ R, Hid (plTx L0 t0 r0 p0 = R) := ⟨_, rfl⟩
  have KT := Lib.hid (fun (W : World) (g : G w W) => toPlayer_any A0 n0 c0 t0 r0 p0 L0 W (HR0.out.G g) Hn0.out hb)
  go_enter Tryd.func3, Tryd.ntmps3
  go_wp2_with fail
  refine (KS.out _ B0.out).mono ?_
  rintro e w1 ⟨rfl, g1⟩
  replace cb0_0 := g1.cell cb0_0
  replace cb0_1 := g1.cell cb0_1
  replace cb0_2 := g1.cell cb0_2
  replace cb0_3 := g1.cell cb0_3
  have G1 := Lib.hid (B0.out.trans g1)
  clear g1
  rw [HZ.out]
  dsimp only
  go_wp2_with fail
  refine (KT.out _ G1.out).mono ?_
  rintro e w2 ⟨b1, rfl, hb1, hl1, g2, o1⟩
  replace cb0_0 := g2.cell cb0_0
  replace cb0_1 := g2.cell cb0_1
  replace cb0_2 := g2.cell cb0_2
  replace cb0_3 := g2.cell cb0_3
  have G2 := Lib.hid (G1.out.trans g2)
  have s2 := G2.out.size
  clear g2
  have O1 := Lib.hid o1
  clear o1
  dsimp only
  go_wp2_with fail
  refine (sPlayerText_any _ n0 _ t0 r0 p0 L0 _ (rd_own (by decide) cCue_len O1.out) Hn0.out (by omega) HW0.out).mono ?_
  rintro e w3 ⟨rfl, g3⟩
  have O1 := Lib.hid (own_G O1.out g3)
  replace cb0_0 := g3.cell cb0_0
  replace cb0_1 := g3.cell cb0_1
  replace cb0_2 := g3.cell cb0_2
  replace cb0_3 := g3.cell cb0_3
  have G3 := Lib.hid (G2.out.trans g3)
  have s3 := G3.out.size
  clear g3
  rw [HX.out]
  dsimp only
  go_wp2_with fail
  refine (KT.out _ G3.out).mono ?_
  rintro e w4 ⟨b2, rfl, hb2, hl2, g4, o2⟩
  have O1 := Lib.hid (own_G O1.out g4)
  replace cb0_0 := g4.cell cb0_0
  replace cb0_1 := g4.cell cb0_1
  replace cb0_2 := g4.cell cb0_2
  replace cb0_3 := g4.cell cb0_3
  have G4 := Lib.hid (G3.out.trans g4)
  have s4 := G4.out.size
  clear g4
  have O2 := Lib.hid o2
  clear o2
  dsimp only
  have gx := (G.refl w4).alloc (.cells #[.slice (some ⟨b2, 0, none⟩) n0 n0, .int .i64 t0, .int .i64 r0, .bool p0] 29)
  have cb2_0 : (w4.alloc (.cells #[.slice (some ⟨b2, 0, none⟩) n0 n0, .int .i64 t0, .int .i64 r0, .bool p0] 29)).cell? ⟨w4.heap.size, 0, none⟩ = some (.slice (some ⟨b2, 0, none⟩) n0 n0) := (World.cell?_alloc_at _ _ _ 0 rfl).trans rfl
  have cb2_1 : (w4.alloc (.cells #[.slice (some ⟨b2, 0, none⟩) n0 n0, .int .i64 t0, .int .i64 r0, .bool p0] 29)).cell? ⟨w4.heap.size, 1, none⟩ = some (.int .i64 t0) := (World.cell?_alloc_at _ _ _ 1 rfl).trans rfl
  have cb2_2 : (w4.alloc (.cells #[.slice (some ⟨b2, 0, none⟩) n0 n0, .int .i64 t0, .int .i64 r0, .bool p0] 29)).cell? ⟨w4.heap.size, 2, none⟩ = some (.int .i64 r0) := (World.cell?_alloc_at _ _ _ 2 rfl).trans rfl
  have cb2_3 : (w4.alloc (.cells #[.slice (some ⟨b2, 0, none⟩) n0 n0, .int .i64 t0, .int .i64 r0, .bool p0] 29)).cell? ⟨w4.heap.size, 3, none⟩ = some (.bool p0) := (World.cell?_alloc_at _ _ _ 3 rfl).trans rfl
  have O1 := Lib.hid (own_G O1.out gx)
  have O2 := Lib.hid (own_G O2.out gx)
  replace cb0_0 := gx.cell cb0_0
  replace cb0_1 := gx.cell cb0_1
  replace cb0_2 := gx.cell cb0_2
  replace cb0_3 := gx.cell cb0_3
  have GX := Lib.hid (G4.out.trans gx)
  clear gx
  go_wp2_with fail
  refine (iPlayerText_any _ n0 _ t0 r0 p0 L0 _ (rd_own (by decide) cCue_len O2.out) Hn0.out (by omega) (Nat.le_refl _) HW0.out (HTP.out.G GX.out)).mono ?_
  rintro e w5 ⟨rfl, g5⟩
  have O1 := Lib.hid (own_G O1.out g5)
  have O2 := Lib.hid (own_G O2.out g5)
  replace cb0_0 := g5.cell cb0_0
  replace cb0_1 := g5.cell cb0_1
  replace cb0_2 := g5.cell cb0_2
  replace cb0_3 := g5.cell cb0_3
  replace cb2_0 := g5.cell cb2_0
  replace cb2_1 := g5.cell cb2_1
  replace cb2_2 := g5.cell cb2_2
  replace cb2_3 := g5.cell cb2_3
  have G5 := Lib.hid (GX.out.trans g5)
  have s5 := G5.out.size
  clear g5
  rw [HX.out]
  dsimp only
  go_wp2_with fail
  go_region_held3 (fun w' => w'.cell? ⟨w.heap.size, 0, none⟩ = some (.slice A0 n0 c0) ∧ w'.cell? ⟨w.heap.size, 1, none⟩ = some (.int .i64 t0) ∧ w'.cell? ⟨w.heap.size, 2, none⟩ = some (.int .i64 r0) ∧ w'.cell? ⟨w.heap.size, 3, none⟩ = some (.bool p0) ∧ w'.cell? ⟨w4.heap.size, 0, none⟩ = some (.slice (some ⟨b2, 0, none⟩) n0 n0) ∧ w'.cell? ⟨w4.heap.size, 1, none⟩ = some (.int .i64 t0) ∧ w'.cell? ⟨w4.heap.size, 2, none⟩ = some (.int .i64 r0) ∧ w'.cell? ⟨w4.heap.size, 3, none⟩ = some (.bool p0)) (first | go_keep | exact ⟨cb0_0, cb0_1, cb0_2, cb0_3, cb2_0, cb2_1, cb2_2, cb2_3⟩) (first | (go_at_call 7; refine (KT.out _ ?hq).mono ?_; (case hq => exact G5.out.drew); rintro e w6 ⟨b3, rfl, hb3, hl3, g6, o3⟩; have O1 := Lib.hid (own_G (w := w5.drew) O1.out g6); have O2 := Lib.hid (own_G (w := w5.drew) O2.out g6); have O3 := Lib.hid o3; clear o3; replace cb0_0 := g6.cell cb0_0; replace cb0_1 := g6.cell cb0_1; replace cb0_2 := g6.cell cb0_2; replace cb0_3 := g6.cell cb0_3; replace cb2_0 := g6.cell cb2_0; replace cb2_1 := g6.cell cb2_1; replace cb2_2 := g6.cell cb2_2; replace cb2_3 := g6.cell cb2_3; have G6 := Lib.hid (G5.out.drew.trans g6); clear g6) | (go_at_call 9; refine (eqPlayer_same _ _ n0 _ _ t0 r0 p0 L0 _ (rd_own (by decide) cCue_len O2.out) (rd_own (by decide) cCue_len O3.out) Hn0.out (by omega)).mono ?_; rintro e w7 ⟨rfl, g7⟩; replace cb0_0 := g7.cell cb0_0; replace cb0_1 := g7.cell cb0_1; replace cb0_2 := g7.cell cb0_2; replace cb0_3 := g7.cell cb0_3; replace cb2_0 := g7.cell cb2_0; replace cb2_1 := g7.cell cb2_1; replace cb2_2 := g7.cell cb2_2; replace cb2_3 := g7.cell cb2_3; have G7 := Lib.hid (G6.out.trans g7); clear g7))
  go_wp2
  go_ret
  exact ⟨rfl, G7.out⟩
end Go.Proofs.YtecakcgkibemaaaDoor
