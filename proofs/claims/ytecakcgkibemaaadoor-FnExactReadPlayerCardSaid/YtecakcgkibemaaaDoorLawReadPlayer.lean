/-
  The law of ReadPlayer, walked.
-/
import Derived.Test.YtecakcgkibemaaaDoorRdPl2
import Derived.Test.YtecakcgkibemaaaDoorMarkPl
namespace Go.Proofs.YtecakcgkibemaaaDoor
open Go.RowKit

theorem rplE2 {w : World} {R : SPr} {b : Bool} {e : Ending} {w' : World} (h : rplE w (R, b) e w') : ∃ A c, e = .returned (.tuple #[.agg #[.slice A R.L.length c, .int .i64 R.t, .int .i64 R.r, .bool R.p], .bool b]) ∧ G w w' ∧ w'.ownsRow w.heap.size 45 6 (.slice A R.L.length c) R.L.length (R.L.flatMap cCue) := h
theorem rplR_len (s : ByteArray) : (rplR s).1.L.length ≤ 32 := by
  by_cases h : ∃ x, PlOf s x
  · obtain ⟨x, hx⟩ := h
    rw [rplR_of hx]
    exact vcus_len (vplB_bd hx.1).1
  · rw [rplR_no (fun x hx => h ⟨x, hx⟩)]
    exact Nat.zero_le _
set_option maxRecDepth 20000 in
set_option maxHeartbeats 4000000 in
theorem lawReadPlayer (t0 : ByteArray) (w : World) (hE : Env w) (_h0 : t0.size ≤ maxLen) :
    Calls Tryd.prog 4 #[.string t0] w fun e w' => e = .returned (.bool true) ∧ Below w.heap.size w w' := by
  have HE := Lib.hid hE
  clear hE
  by_cases hbig0 : t0.size ≤ 1048576
  case neg =>
    go_enter Tryd.func4, Tryd.ntmps4
    go_wp2
    go_ret
    exact ⟨rfl, (G.refl _)⟩
  have KS := Lib.hid (fun (W : World) => sReadPlayer_any t0 W hbig0)
  have KI := Lib.hid (fun (W : World) (g : G w W) => iReadPlayer_any t0 W hbig0 (HE.out.G g))
  have hlen := rplR_len t0
  obtain ⟨R, HX⟩ : ∃ R, Hid (rplR t0 = R) := ⟨_, rfl⟩
  rw [HX.out] at KS KI hlen
  obtain ⟨R, rb⟩ := R
  have hRb : R.L.length ≤ 1048576 := Nat.le_trans hlen (by decide)
  clear HX hlen
  cases rb
  · go_enter Tryd.func4, Tryd.ntmps4
    go_wp2_with fail
    refine (KS.out _).mono ?_
    intro e w1 h1
    obtain ⟨A1, c1, rfl, g1, o1⟩ := rplE2 h1
    clear h1
    have G1 := Lib.hid ((G.refl w).trans g1)
    have s1 := g1.size
    clear g1
    have O1 := Lib.hid o1
    clear o1
    have B1 := Lib.hid (own_bd O1.out)
    dsimp only
    have gx := (G.refl w1).alloc (.cells #[.slice A1 R.L.length c1, .int .i64 R.t, .int .i64 R.r, .bool R.p] 29)
    have bs_cb4 : (w1.alloc (.cells #[.slice A1 R.L.length c1, .int .i64 R.t, .int .i64 R.r, .bool R.p] 29)).heap.size = w1.heap.size + 1 := by simp
    have cb4_0 : (w1.alloc (.cells #[.slice A1 R.L.length c1, .int .i64 R.t, .int .i64 R.r, .bool R.p] 29)).cell? ⟨w1.heap.size, 0, none⟩ = some (.slice A1 R.L.length c1) := (World.cell?_alloc_at _ _ _ 0 rfl).trans rfl
    have cb4_1 : (w1.alloc (.cells #[.slice A1 R.L.length c1, .int .i64 R.t, .int .i64 R.r, .bool R.p] 29)).cell? ⟨w1.heap.size, 1, none⟩ = some (.int .i64 R.t) := (World.cell?_alloc_at _ _ _ 1 rfl).trans rfl
    have cb4_2 : (w1.alloc (.cells #[.slice A1 R.L.length c1, .int .i64 R.t, .int .i64 R.r, .bool R.p] 29)).cell? ⟨w1.heap.size, 2, none⟩ = some (.int .i64 R.r) := (World.cell?_alloc_at _ _ _ 2 rfl).trans rfl
    have cb4_3 : (w1.alloc (.cells #[.slice A1 R.L.length c1, .int .i64 R.t, .int .i64 R.r, .bool R.p] 29)).cell? ⟨w1.heap.size, 3, none⟩ = some (.bool R.p) := (World.cell?_alloc_at _ _ _ 3 rfl).trans rfl
    have O1 := Lib.hid (own_G O1.out gx)
    have GX_cb4 := Lib.hid (G1.out.trans gx)
    clear gx
    go_wp2_with fail
    refine (KI.out _ GX_cb4.out).mono ?_
    intro e w2 h2
    obtain ⟨A2, c2, rfl, g2, o2⟩ := rplE2 h2
    clear h2
    have O1 := Lib.hid (own_G O1.out g2)
    replace cb4_0 := g2.cell cb4_0
    replace cb4_1 := g2.cell cb4_1
    replace cb4_2 := g2.cell cb4_2
    replace cb4_3 := g2.cell cb4_3
    have G2 := Lib.hid (GX_cb4.out.trans g2)
    have s2 := g2.size
    clear g2
    have O2 := Lib.hid o2
    clear o2
    have B2 := Lib.hid (own_bd O2.out)
    dsimp only
    have gx := (G.refl w2).alloc (.cells #[.slice A2 R.L.length c2, .int .i64 R.t, .int .i64 R.r, .bool R.p] 29)
    have bs_cb5 : (w2.alloc (.cells #[.slice A2 R.L.length c2, .int .i64 R.t, .int .i64 R.r, .bool R.p] 29)).heap.size = w2.heap.size + 1 := by simp
    have cb5_0 : (w2.alloc (.cells #[.slice A2 R.L.length c2, .int .i64 R.t, .int .i64 R.r, .bool R.p] 29)).cell? ⟨w2.heap.size, 0, none⟩ = some (.slice A2 R.L.length c2) := (World.cell?_alloc_at _ _ _ 0 rfl).trans rfl
    have cb5_1 : (w2.alloc (.cells #[.slice A2 R.L.length c2, .int .i64 R.t, .int .i64 R.r, .bool R.p] 29)).cell? ⟨w2.heap.size, 1, none⟩ = some (.int .i64 R.t) := (World.cell?_alloc_at _ _ _ 1 rfl).trans rfl
    have cb5_2 : (w2.alloc (.cells #[.slice A2 R.L.length c2, .int .i64 R.t, .int .i64 R.r, .bool R.p] 29)).cell? ⟨w2.heap.size, 2, none⟩ = some (.int .i64 R.r) := (World.cell?_alloc_at _ _ _ 2 rfl).trans rfl
    have cb5_3 : (w2.alloc (.cells #[.slice A2 R.L.length c2, .int .i64 R.t, .int .i64 R.r, .bool R.p] 29)).cell? ⟨w2.heap.size, 3, none⟩ = some (.bool R.p) := (World.cell?_alloc_at _ _ _ 3 rfl).trans rfl
    have O1 := Lib.hid (own_G O1.out gx)
    have O2 := Lib.hid (own_G O2.out gx)
    replace cb4_0 := gx.cell cb4_0
    replace cb4_1 := gx.cell cb4_1
    replace cb4_2 := gx.cell cb4_2
    replace cb4_3 := gx.cell cb4_3
    have GX_cb5 := Lib.hid (G2.out.trans gx)
    clear gx
    go_wp2_with fail
    refine (eqPlayer_same _ _ R.L.length _ _ R.t R.r R.p R.L _ (rd_own (by decide) cCue_len O2.out) (rd_own (by decide) cCue_len O1.out) rfl (by omega)).mono ?_
    rintro e w3 ⟨rfl, g3⟩
    have O1 := Lib.hid (own_G O1.out g3)
    have O2 := Lib.hid (own_G O2.out g3)
    replace cb4_0 := g3.cell cb4_0
    replace cb4_1 := g3.cell cb4_1
    replace cb4_2 := g3.cell cb4_2
    replace cb4_3 := g3.cell cb4_3
    replace cb5_0 := g3.cell cb5_0
    replace cb5_1 := g3.cell cb5_1
    replace cb5_2 := g3.cell cb5_2
    replace cb5_3 := g3.cell cb5_3
    have G3 := Lib.hid (GX_cb5.out.trans g3)
    have s3 := g3.size
    clear g3
    dsimp only
    go_wp2_with fail
    refine (markPlayer_any _ _ R.L.length _ R.t R.r R.p _ 1 _ O2.out (by omega) (by omega) (by omega)).mono ?_
    rintro e w4 ⟨rfl, g4, o2⟩
    have O1 := Lib.hid (own_Gx O1.out g4 (own_ne (fun a b ha hb => by have h1 := B1.out a ha; have h2 := B2.out b hb; omega)))
    replace cb4_0 := Gx.cell g4 cb4_0 (map_ne (fun a ha => by have h1 := B2.out a ha; simp only; omega))
    replace cb4_1 := Gx.cell g4 cb4_1 (map_ne (fun a ha => by have h1 := B2.out a ha; simp only; omega))
    replace cb4_2 := Gx.cell g4 cb4_2 (map_ne (fun a ha => by have h1 := B2.out a ha; simp only; omega))
    replace cb4_3 := Gx.cell g4 cb4_3 (map_ne (fun a ha => by have h1 := B2.out a ha; simp only; omega))
    replace cb5_0 := Gx.cell g4 cb5_0 (map_ne (fun a ha => by have h1 := B2.out a ha; simp only; omega))
    replace cb5_1 := Gx.cell g4 cb5_1 (map_ne (fun a ha => by have h1 := B2.out a ha; simp only; omega))
    replace cb5_2 := Gx.cell g4 cb5_2 (map_ne (fun a ha => by have h1 := B2.out a ha; simp only; omega))
    replace cb5_3 := Gx.cell g4 cb5_3 (map_ne (fun a ha => by have h1 := B2.out a ha; simp only; omega))
    have s4 := World.grownBy.size g4
    have G4 := Lib.hid (Gx.G G3.out g4 (map_block (fun a ha => by have h1 := B2.out a ha; omega)))
    have O2 := Lib.hid o2
    clear g4 o2
    dsimp only
    go_wp2_with fail
    refine (heldPlayer_any _ R.L.length _ R.t R.r R.p 1 _ (rd_own (by decide) cCue_len O2.out) (by omega) (by omega) (by omega)).mono ?_
    rintro e w5 ⟨rfl, g5⟩
    have O1 := Lib.hid (own_G O1.out g5)
    have O2 := Lib.hid (own_G O2.out g5)
    replace cb4_0 := g5.cell cb4_0
    replace cb4_1 := g5.cell cb4_1
    replace cb4_2 := g5.cell cb4_2
    replace cb4_3 := g5.cell cb4_3
    replace cb5_0 := g5.cell cb5_0
    replace cb5_1 := g5.cell cb5_1
    replace cb5_2 := g5.cell cb5_2
    replace cb5_3 := g5.cell cb5_3
    have G5 := Lib.hid (G4.out.trans g5)
    have s5 := g5.size
    clear g5
    dsimp only
    go_wp2_with fail
    refine (KI.out _ G5.out).mono ?_
    intro e w6 h6
    obtain ⟨A3, c3, rfl, g6, o3⟩ := rplE2 h6
    clear h6
    have O1 := Lib.hid (own_G O1.out g6)
    have O2 := Lib.hid (own_G O2.out g6)
    replace cb4_0 := g6.cell cb4_0
    replace cb4_1 := g6.cell cb4_1
    replace cb4_2 := g6.cell cb4_2
    replace cb4_3 := g6.cell cb4_3
    replace cb5_0 := g6.cell cb5_0
    replace cb5_1 := g6.cell cb5_1
    replace cb5_2 := g6.cell cb5_2
    replace cb5_3 := g6.cell cb5_3
    have G6 := Lib.hid (G5.out.trans g6)
    have s6 := g6.size
    clear g6
    have O3 := Lib.hid o3
    clear o3
    have B3 := Lib.hid (own_bd O3.out)
    dsimp only
    have gx := (G.refl w6).alloc (.cells #[.slice A3 R.L.length c3, .int .i64 R.t, .int .i64 R.r, .bool R.p] 29)
    have bs_cb9 : (w6.alloc (.cells #[.slice A3 R.L.length c3, .int .i64 R.t, .int .i64 R.r, .bool R.p] 29)).heap.size = w6.heap.size + 1 := by simp
    have cb9_0 : (w6.alloc (.cells #[.slice A3 R.L.length c3, .int .i64 R.t, .int .i64 R.r, .bool R.p] 29)).cell? ⟨w6.heap.size, 0, none⟩ = some (.slice A3 R.L.length c3) := (World.cell?_alloc_at _ _ _ 0 rfl).trans rfl
    have cb9_1 : (w6.alloc (.cells #[.slice A3 R.L.length c3, .int .i64 R.t, .int .i64 R.r, .bool R.p] 29)).cell? ⟨w6.heap.size, 1, none⟩ = some (.int .i64 R.t) := (World.cell?_alloc_at _ _ _ 1 rfl).trans rfl
    have cb9_2 : (w6.alloc (.cells #[.slice A3 R.L.length c3, .int .i64 R.t, .int .i64 R.r, .bool R.p] 29)).cell? ⟨w6.heap.size, 2, none⟩ = some (.int .i64 R.r) := (World.cell?_alloc_at _ _ _ 2 rfl).trans rfl
    have cb9_3 : (w6.alloc (.cells #[.slice A3 R.L.length c3, .int .i64 R.t, .int .i64 R.r, .bool R.p] 29)).cell? ⟨w6.heap.size, 3, none⟩ = some (.bool R.p) := (World.cell?_alloc_at _ _ _ 3 rfl).trans rfl
    have O1 := Lib.hid (own_G O1.out gx)
    have O2 := Lib.hid (own_G O2.out gx)
    have O3 := Lib.hid (own_G O3.out gx)
    replace cb4_0 := gx.cell cb4_0
    replace cb4_1 := gx.cell cb4_1
    replace cb4_2 := gx.cell cb4_2
    replace cb4_3 := gx.cell cb4_3
    replace cb5_0 := gx.cell cb5_0
    replace cb5_1 := gx.cell cb5_1
    replace cb5_2 := gx.cell cb5_2
    replace cb5_3 := gx.cell cb5_3
    have GX_cb9 := Lib.hid (G6.out.trans gx)
    clear gx
    go_wp2_with fail
    refine (eqPlayer_same _ _ R.L.length _ _ R.t R.r R.p R.L _ (rd_own (by decide) cCue_len O3.out) (rd_own (by decide) cCue_len O1.out) rfl (by omega)).mono ?_
    rintro e w7 ⟨rfl, g7⟩
    have O1 := Lib.hid (own_G O1.out g7)
    have O2 := Lib.hid (own_G O2.out g7)
    have O3 := Lib.hid (own_G O3.out g7)
    replace cb4_0 := g7.cell cb4_0
    replace cb4_1 := g7.cell cb4_1
    replace cb4_2 := g7.cell cb4_2
    replace cb4_3 := g7.cell cb4_3
    replace cb5_0 := g7.cell cb5_0
    replace cb5_1 := g7.cell cb5_1
    replace cb5_2 := g7.cell cb5_2
    replace cb5_3 := g7.cell cb5_3
    replace cb9_0 := g7.cell cb9_0
    replace cb9_1 := g7.cell cb9_1
    replace cb9_2 := g7.cell cb9_2
    replace cb9_3 := g7.cell cb9_3
    have G7 := Lib.hid (GX_cb9.out.trans g7)
    have s7 := g7.size
    clear g7
    dsimp only
    go_wp2_with fail
    refine (heldPlayer_any _ R.L.length _ R.t R.r R.p 1 _ (rd_own (by decide) cCue_len O2.out) (by omega) (by omega) (by omega)).mono ?_
    rintro e w8 ⟨rfl, g8⟩
    have O1 := Lib.hid (own_G O1.out g8)
    have O2 := Lib.hid (own_G O2.out g8)
    have O3 := Lib.hid (own_G O3.out g8)
    replace cb4_0 := g8.cell cb4_0
    replace cb4_1 := g8.cell cb4_1
    replace cb4_2 := g8.cell cb4_2
    replace cb4_3 := g8.cell cb4_3
    replace cb5_0 := g8.cell cb5_0
    replace cb5_1 := g8.cell cb5_1
    replace cb5_2 := g8.cell cb5_2
    replace cb5_3 := g8.cell cb5_3
    replace cb9_0 := g8.cell cb9_0
    replace cb9_1 := g8.cell cb9_1
    replace cb9_2 := g8.cell cb9_2
    replace cb9_3 := g8.cell cb9_3
    have G8 := Lib.hid (G7.out.trans g8)
    have s8 := g8.size
    clear g8
    dsimp only
    go_wp2
    go_ret
    exact ⟨rfl, G8.out⟩
  · go_enter Tryd.func4, Tryd.ntmps4
    go_wp2_with fail
    refine (KS.out _).mono ?_
    intro e w1 h1
    obtain ⟨A1, c1, rfl, g1, o1⟩ := rplE2 h1
    clear h1
    have G1 := Lib.hid ((G.refl w).trans g1)
    have s1 := g1.size
    clear g1
    have O1 := Lib.hid o1
    clear o1
    have B1 := Lib.hid (own_bd O1.out)
    dsimp only
    have gx := (G.refl w1).alloc (.cells #[.slice A1 R.L.length c1, .int .i64 R.t, .int .i64 R.r, .bool R.p] 29)
    have bs_cb4 : (w1.alloc (.cells #[.slice A1 R.L.length c1, .int .i64 R.t, .int .i64 R.r, .bool R.p] 29)).heap.size = w1.heap.size + 1 := by simp
    have cb4_0 : (w1.alloc (.cells #[.slice A1 R.L.length c1, .int .i64 R.t, .int .i64 R.r, .bool R.p] 29)).cell? ⟨w1.heap.size, 0, none⟩ = some (.slice A1 R.L.length c1) := (World.cell?_alloc_at _ _ _ 0 rfl).trans rfl
    have cb4_1 : (w1.alloc (.cells #[.slice A1 R.L.length c1, .int .i64 R.t, .int .i64 R.r, .bool R.p] 29)).cell? ⟨w1.heap.size, 1, none⟩ = some (.int .i64 R.t) := (World.cell?_alloc_at _ _ _ 1 rfl).trans rfl
    have cb4_2 : (w1.alloc (.cells #[.slice A1 R.L.length c1, .int .i64 R.t, .int .i64 R.r, .bool R.p] 29)).cell? ⟨w1.heap.size, 2, none⟩ = some (.int .i64 R.r) := (World.cell?_alloc_at _ _ _ 2 rfl).trans rfl
    have cb4_3 : (w1.alloc (.cells #[.slice A1 R.L.length c1, .int .i64 R.t, .int .i64 R.r, .bool R.p] 29)).cell? ⟨w1.heap.size, 3, none⟩ = some (.bool R.p) := (World.cell?_alloc_at _ _ _ 3 rfl).trans rfl
    have O1 := Lib.hid (own_G O1.out gx)
    have GX_cb4 := Lib.hid (G1.out.trans gx)
    clear gx
    go_wp2_with fail
    refine (KI.out _ GX_cb4.out).mono ?_
    intro e w2 h2
    obtain ⟨A2, c2, rfl, g2, o2⟩ := rplE2 h2
    clear h2
    have O1 := Lib.hid (own_G O1.out g2)
    replace cb4_0 := g2.cell cb4_0
    replace cb4_1 := g2.cell cb4_1
    replace cb4_2 := g2.cell cb4_2
    replace cb4_3 := g2.cell cb4_3
    have G2 := Lib.hid (GX_cb4.out.trans g2)
    have s2 := g2.size
    clear g2
    have O2 := Lib.hid o2
    clear o2
    have B2 := Lib.hid (own_bd O2.out)
    dsimp only
    have gx := (G.refl w2).alloc (.cells #[.slice A2 R.L.length c2, .int .i64 R.t, .int .i64 R.r, .bool R.p] 29)
    have bs_cb5 : (w2.alloc (.cells #[.slice A2 R.L.length c2, .int .i64 R.t, .int .i64 R.r, .bool R.p] 29)).heap.size = w2.heap.size + 1 := by simp
    have cb5_0 : (w2.alloc (.cells #[.slice A2 R.L.length c2, .int .i64 R.t, .int .i64 R.r, .bool R.p] 29)).cell? ⟨w2.heap.size, 0, none⟩ = some (.slice A2 R.L.length c2) := (World.cell?_alloc_at _ _ _ 0 rfl).trans rfl
    have cb5_1 : (w2.alloc (.cells #[.slice A2 R.L.length c2, .int .i64 R.t, .int .i64 R.r, .bool R.p] 29)).cell? ⟨w2.heap.size, 1, none⟩ = some (.int .i64 R.t) := (World.cell?_alloc_at _ _ _ 1 rfl).trans rfl
    have cb5_2 : (w2.alloc (.cells #[.slice A2 R.L.length c2, .int .i64 R.t, .int .i64 R.r, .bool R.p] 29)).cell? ⟨w2.heap.size, 2, none⟩ = some (.int .i64 R.r) := (World.cell?_alloc_at _ _ _ 2 rfl).trans rfl
    have cb5_3 : (w2.alloc (.cells #[.slice A2 R.L.length c2, .int .i64 R.t, .int .i64 R.r, .bool R.p] 29)).cell? ⟨w2.heap.size, 3, none⟩ = some (.bool R.p) := (World.cell?_alloc_at _ _ _ 3 rfl).trans rfl
    have O1 := Lib.hid (own_G O1.out gx)
    have O2 := Lib.hid (own_G O2.out gx)
    replace cb4_0 := gx.cell cb4_0
    replace cb4_1 := gx.cell cb4_1
    replace cb4_2 := gx.cell cb4_2
    replace cb4_3 := gx.cell cb4_3
    have GX_cb5 := Lib.hid (G2.out.trans gx)
    clear gx
    go_wp2_with fail
    refine (eqPlayer_same _ _ R.L.length _ _ R.t R.r R.p R.L _ (rd_own (by decide) cCue_len O2.out) (rd_own (by decide) cCue_len O1.out) rfl (by omega)).mono ?_
    rintro e w3 ⟨rfl, g3⟩
    have O1 := Lib.hid (own_G O1.out g3)
    have O2 := Lib.hid (own_G O2.out g3)
    replace cb4_0 := g3.cell cb4_0
    replace cb4_1 := g3.cell cb4_1
    replace cb4_2 := g3.cell cb4_2
    replace cb4_3 := g3.cell cb4_3
    replace cb5_0 := g3.cell cb5_0
    replace cb5_1 := g3.cell cb5_1
    replace cb5_2 := g3.cell cb5_2
    replace cb5_3 := g3.cell cb5_3
    have G3 := Lib.hid (GX_cb5.out.trans g3)
    have s3 := g3.size
    clear g3
    dsimp only
    go_wp2_with fail
    refine (markPlayer_any _ _ R.L.length _ R.t R.r R.p _ 1 _ O2.out (by omega) (by omega) (by omega)).mono ?_
    rintro e w4 ⟨rfl, g4, o2⟩
    have O1 := Lib.hid (own_Gx O1.out g4 (own_ne (fun a b ha hb => by have h1 := B1.out a ha; have h2 := B2.out b hb; omega)))
    replace cb4_0 := Gx.cell g4 cb4_0 (map_ne (fun a ha => by have h1 := B2.out a ha; simp only; omega))
    replace cb4_1 := Gx.cell g4 cb4_1 (map_ne (fun a ha => by have h1 := B2.out a ha; simp only; omega))
    replace cb4_2 := Gx.cell g4 cb4_2 (map_ne (fun a ha => by have h1 := B2.out a ha; simp only; omega))
    replace cb4_3 := Gx.cell g4 cb4_3 (map_ne (fun a ha => by have h1 := B2.out a ha; simp only; omega))
    replace cb5_0 := Gx.cell g4 cb5_0 (map_ne (fun a ha => by have h1 := B2.out a ha; simp only; omega))
    replace cb5_1 := Gx.cell g4 cb5_1 (map_ne (fun a ha => by have h1 := B2.out a ha; simp only; omega))
    replace cb5_2 := Gx.cell g4 cb5_2 (map_ne (fun a ha => by have h1 := B2.out a ha; simp only; omega))
    replace cb5_3 := Gx.cell g4 cb5_3 (map_ne (fun a ha => by have h1 := B2.out a ha; simp only; omega))
    have s4 := World.grownBy.size g4
    have G4 := Lib.hid (Gx.G G3.out g4 (map_block (fun a ha => by have h1 := B2.out a ha; omega)))
    have O2 := Lib.hid o2
    clear g4 o2
    dsimp only
    go_wp2_with fail
    refine (heldPlayer_any _ R.L.length _ R.t R.r R.p 1 _ (rd_own (by decide) cCue_len O2.out) (by omega) (by omega) (by omega)).mono ?_
    rintro e w5 ⟨rfl, g5⟩
    have O1 := Lib.hid (own_G O1.out g5)
    have O2 := Lib.hid (own_G O2.out g5)
    replace cb4_0 := g5.cell cb4_0
    replace cb4_1 := g5.cell cb4_1
    replace cb4_2 := g5.cell cb4_2
    replace cb4_3 := g5.cell cb4_3
    replace cb5_0 := g5.cell cb5_0
    replace cb5_1 := g5.cell cb5_1
    replace cb5_2 := g5.cell cb5_2
    replace cb5_3 := g5.cell cb5_3
    have G5 := Lib.hid (G4.out.trans g5)
    have s5 := g5.size
    clear g5
    dsimp only
    go_wp2_with fail
    refine (KI.out _ G5.out).mono ?_
    intro e w6 h6
    obtain ⟨A3, c3, rfl, g6, o3⟩ := rplE2 h6
    clear h6
    have O1 := Lib.hid (own_G O1.out g6)
    have O2 := Lib.hid (own_G O2.out g6)
    replace cb4_0 := g6.cell cb4_0
    replace cb4_1 := g6.cell cb4_1
    replace cb4_2 := g6.cell cb4_2
    replace cb4_3 := g6.cell cb4_3
    replace cb5_0 := g6.cell cb5_0
    replace cb5_1 := g6.cell cb5_1
    replace cb5_2 := g6.cell cb5_2
    replace cb5_3 := g6.cell cb5_3
    have G6 := Lib.hid (G5.out.trans g6)
    have s6 := g6.size
    clear g6
    have O3 := Lib.hid o3
    clear o3
    have B3 := Lib.hid (own_bd O3.out)
    dsimp only
    have gx := (G.refl w6).alloc (.cells #[.slice A3 R.L.length c3, .int .i64 R.t, .int .i64 R.r, .bool R.p] 29)
    have bs_cb9 : (w6.alloc (.cells #[.slice A3 R.L.length c3, .int .i64 R.t, .int .i64 R.r, .bool R.p] 29)).heap.size = w6.heap.size + 1 := by simp
    have cb9_0 : (w6.alloc (.cells #[.slice A3 R.L.length c3, .int .i64 R.t, .int .i64 R.r, .bool R.p] 29)).cell? ⟨w6.heap.size, 0, none⟩ = some (.slice A3 R.L.length c3) := (World.cell?_alloc_at _ _ _ 0 rfl).trans rfl
    have cb9_1 : (w6.alloc (.cells #[.slice A3 R.L.length c3, .int .i64 R.t, .int .i64 R.r, .bool R.p] 29)).cell? ⟨w6.heap.size, 1, none⟩ = some (.int .i64 R.t) := (World.cell?_alloc_at _ _ _ 1 rfl).trans rfl
    have cb9_2 : (w6.alloc (.cells #[.slice A3 R.L.length c3, .int .i64 R.t, .int .i64 R.r, .bool R.p] 29)).cell? ⟨w6.heap.size, 2, none⟩ = some (.int .i64 R.r) := (World.cell?_alloc_at _ _ _ 2 rfl).trans rfl
    have cb9_3 : (w6.alloc (.cells #[.slice A3 R.L.length c3, .int .i64 R.t, .int .i64 R.r, .bool R.p] 29)).cell? ⟨w6.heap.size, 3, none⟩ = some (.bool R.p) := (World.cell?_alloc_at _ _ _ 3 rfl).trans rfl
    have O1 := Lib.hid (own_G O1.out gx)
    have O2 := Lib.hid (own_G O2.out gx)
    have O3 := Lib.hid (own_G O3.out gx)
    replace cb4_0 := gx.cell cb4_0
    replace cb4_1 := gx.cell cb4_1
    replace cb4_2 := gx.cell cb4_2
    replace cb4_3 := gx.cell cb4_3
    replace cb5_0 := gx.cell cb5_0
    replace cb5_1 := gx.cell cb5_1
    replace cb5_2 := gx.cell cb5_2
    replace cb5_3 := gx.cell cb5_3
    have GX_cb9 := Lib.hid (G6.out.trans gx)
    clear gx
    go_wp2_with fail
    refine (eqPlayer_same _ _ R.L.length _ _ R.t R.r R.p R.L _ (rd_own (by decide) cCue_len O3.out) (rd_own (by decide) cCue_len O1.out) rfl (by omega)).mono ?_
    rintro e w7 ⟨rfl, g7⟩
    have O1 := Lib.hid (own_G O1.out g7)
    have O2 := Lib.hid (own_G O2.out g7)
    have O3 := Lib.hid (own_G O3.out g7)
    replace cb4_0 := g7.cell cb4_0
    replace cb4_1 := g7.cell cb4_1
    replace cb4_2 := g7.cell cb4_2
    replace cb4_3 := g7.cell cb4_3
    replace cb5_0 := g7.cell cb5_0
    replace cb5_1 := g7.cell cb5_1
    replace cb5_2 := g7.cell cb5_2
    replace cb5_3 := g7.cell cb5_3
    replace cb9_0 := g7.cell cb9_0
    replace cb9_1 := g7.cell cb9_1
    replace cb9_2 := g7.cell cb9_2
    replace cb9_3 := g7.cell cb9_3
    have G7 := Lib.hid (GX_cb9.out.trans g7)
    have s7 := g7.size
    clear g7
    dsimp only
    go_wp2_with fail
    refine (heldPlayer_any _ R.L.length _ R.t R.r R.p 1 _ (rd_own (by decide) cCue_len O2.out) (by omega) (by omega) (by omega)).mono ?_
    rintro e w8 ⟨rfl, g8⟩
    have O1 := Lib.hid (own_G O1.out g8)
    have O2 := Lib.hid (own_G O2.out g8)
    have O3 := Lib.hid (own_G O3.out g8)
    replace cb4_0 := g8.cell cb4_0
    replace cb4_1 := g8.cell cb4_1
    replace cb4_2 := g8.cell cb4_2
    replace cb4_3 := g8.cell cb4_3
    replace cb5_0 := g8.cell cb5_0
    replace cb5_1 := g8.cell cb5_1
    replace cb5_2 := g8.cell cb5_2
    replace cb5_3 := g8.cell cb5_3
    replace cb9_0 := g8.cell cb9_0
    replace cb9_1 := g8.cell cb9_1
    replace cb9_2 := g8.cell cb9_2
    replace cb9_3 := g8.cell cb9_3
    have G8 := Lib.hid (G7.out.trans g8)
    have s8 := g8.size
    clear g8
    dsimp only
    go_wp2
    go_ret
    exact ⟨rfl, G8.out⟩
end Go.Proofs.YtecakcgkibemaaaDoor
