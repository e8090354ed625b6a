/-
  The law FnTimecode, walked.
-/
import Derived.Test.YtcoaldhmofdfgaaDoorTc2
import Derived.Test.YtcoaldhmofdfgaaDoorTc3
import Derived.Test.YtcoaldhmofdfgaaDoorTc4
import Derived.Test.YtcoaldhmofdfgaaDoorB10
namespace Go.Proofs.YtcoaldhmofdfgaaDoor
open Go.RowKit

set_option maxRecDepth 20000 in
set_option maxHeartbeats 4000000 in
theorem lawFnTimecode (A0 : Option Addr) (n0 c0 : Nat) (z0 : List Int) (A1 : Option Addr) (n1 c1 : Nat) (z1 : List Int) (w : World) (hE : Env w) (h0 : IsRow .u8 w A0 n0 c0 z0) (h1 : IsRow .u8 w A1 n1 c1 z1) :
    Calls Tryd.prog 5 #[.slice A0 n0 c0, .slice A1 n1 c1] w fun e w' => e = .returned (.bool true) ∧ Below w.heap.size w w' := by
  have HT := Lib.hid hE.tab
  clear hE
  by_cases hb0 : n0 ≤ 1048576
  case neg =>
    clear h0 h1
    by_cases hb1 : n1 ≤ 1048576
    all_goals
      go_enter Tryd.func5, Tryd.ntmps5
      go_wp2
      go_ret
      exact ⟨rfl, G.refl _⟩
  by_cases hb1 : n1 ≤ 1048576
  case neg =>
    clear h0 h1
    go_enter Tryd.func5, Tryd.ntmps5
    go_wp2
    go_ret
    exact ⟨rfl, G.refl _⟩
  obtain ⟨hc0, hl0⟩ := code_of_isRow h0 hb0
  obtain ⟨hc1, hl1⟩ := code_of_isRow h1 hb1
  have K0 := Lib.hid (DrawCodeAt_any A0 n0 c0 _ w hc0 hl0)
  have K1 := Lib.hid (fun (W : World) (g : G w W) => DrawFrameAt_any A1 n1 c1 _ W (hc1.g g) (fun a ha hn => Nat.lt_of_lt_of_le (hl1 a ha hn) g.size))
  clear h0 h1 hc0 hl0 hc1 hl1
  go_enter Tryd.func5, Tryd.ntmps5
  go_wp2_with fail
  refine (b10Long_no A0 n0 c0 _ hb0).mono ?_
  rintro e w' ⟨rfl, rfl⟩
  dsimp only
  go_wp2_with fail
  refine (b10Long_no A1 n1 c1 _ hb1).mono ?_
  rintro e w' ⟨rfl, rfl⟩
  dsimp only
  go_wp2_with fail
  refine K0.out.mono ?_
  rintro e w1 ⟨x, y, rfl, g1⟩
  have G1 := Lib.hid g1
  clear g1 K0
  dsimp only
  have KC := Lib.hid (fun (W : World) => CodeAt_any x y W)
  by_cases hc : rateB y = true ∧ inB x 0 (dayN y - 1) = true
  case neg =>
    have e1 : tcR x y = (tcZ, 2) := by unfold tcR; rw [if_neg hc]
    rw [e1] at KC
    clear hc e1
    go_wp2_with fail
    refine (KC.out _).mono ?_
    rintro e w2 ⟨rfl, g2⟩
    simp only [tcZ]
    have GZ := Lib.hid ((G1.out.trans g2).alloc (.cells #[.int .i64 0, .int .i64 0, .int .i64 0, .int .i64 0, .int .i64 0] 38))
    clear g2
    go_wp2_with fail
    refine (K1.out _ GZ.out).mono ?_
    rintro e wa ⟨x2, y2, rfl, ga⟩
    have GA := Lib.hid (GZ.out.trans ga)
    clear ga
    dsimp only
    have KF := Lib.hid (fun (W : World) => FrameAt_any x2 y2 W)
    by_cases hc2 : rateB y2 = true ∧ inB x2 0 86400000 = true
    case neg =>
      have e2 : faR x2 y2 = (0, 2) := by unfold faR; rw [if_neg hc2]
      rw [e2] at KF
      clear hc2 e2
      go_wp2_with fail
      refine (KF.out _).mono ?_
      rintro e wb ⟨rfl, gb⟩
      have GB := Lib.hid (GA.out.trans gb)
      clear gb
      dsimp only
      go_wp2
      go_ret
      exact ⟨rfl, GB.out⟩
    have hb2 := inB_iff.1 hc2.2
    obtain ⟨fa0, fa1, fa2, fa3⟩ := frame_at (rateB_iff.1 hc2.1) hb2.1 hb2.2
    have e2 : faR x2 y2 = (fAt x2 y2, 0) := by unfold faR; rw [if_pos hc2]
    have e3 : mlR (fAt x2 y2) y2 = (msN (fAt x2 y2) y2, 0) := by unfold mlR; rw [if_pos ⟨hc2.1, inB_iff.2 ⟨by omega, by omega⟩⟩]
    have e4 : mlR (fAt x2 y2 + 1) y2 = (msN (fAt x2 y2 + 1) y2, 0) := by unfold mlR; rw [if_pos ⟨hc2.1, inB_iff.2 ⟨by omega, by omega⟩⟩]
    have KM := Lib.hid (fun (W : World) => MilliOf_any (fAt x2 y2) y2 W)
    have KN := Lib.hid (fun (W : World) => MilliOf_any (fAt x2 y2 + 1) y2 W)
    rw [e2] at KF
    rw [e3] at KM
    rw [e4] at KN
    obtain ⟨q, HQ⟩ : ∃ q, Hid (fAt x2 y2 = q) := ⟨_, rfl⟩
    rw [HQ.out] at KF KM KN fa0 fa1 fa2 fa3
    obtain ⟨m1, HM1⟩ : ∃ z, Hid (msN q y2 = z) := ⟨_, rfl⟩
    obtain ⟨m2, HM2⟩ : ∃ z, Hid (msN (q + 1) y2 = z) := ⟨_, rfl⟩
    rw [HM1.out] at KM fa2
    rw [HM2.out] at KN fa3
    clear hc2 hb2 e2 e3 e4
    go_wp2_with fail
    refine (KF.out _).mono ?_
    rintro e wb ⟨rfl, gb⟩
    have GB := Lib.hid (GA.out.trans gb)
    clear gb
    dsimp only
    go_wp2_with fail
    refine (KM.out _).mono ?_
    rintro e wc ⟨rfl, gc⟩
    have GC := Lib.hid (GB.out.trans gc)
    clear gc
    dsimp only
    go_wp2_with fail
    refine (KN.out _).mono ?_
    rintro e wd ⟨rfl, gd⟩
    have GD := Lib.hid (GC.out.trans gd)
    clear gd
    dsimp only
    go_wp2
    go_ret
    exact ⟨ret_bool (by first | rfl | (simp; done) | (simp; omega)), GD.out⟩

  have hb := inB_iff.1 hc.2
  obtain ⟨hv, hfr⟩ := code_back (rateB_iff.1 hc.1) hb.1 hb.2
  have e1 : tcR x y = (cAt x y, 0) := by unfold tcR; rw [if_pos hc]
  rw [e1] at KC
  obtain ⟨C, HC⟩ : ∃ C, Hid (cAt x y = C) := ⟨_, rfl⟩
  rw [HC.out] at KC hv hfr
  obtain ⟨h, m, s, f, r⟩ := C
  have KF1 := Lib.hid (fun (W : World) => FrameOf_yes h m s f r hv W)
  have KT := Lib.hid (fun (W : World) (g : G w W) => CodeText_yes h m s f r hv W (HT.out.G g))
  have KR := Lib.hid (fun (W : World) (g : G w W) => ReadCode_yes h m s f r hv W (HT.out.G g))
  have KS := Lib.hid (fun (W : World) => sValidCode_yes h m s f r hv W)
  rw [hfr] at KF1
  simp only at KC
  clear hc hb hv hfr e1
  go_wp2_with fail
  refine (KC.out _).mono ?_
  rintro e w2 ⟨rfl, g2⟩
  have G2 := Lib.hid (G1.out.trans g2)
  have GB := Lib.hid (G2.out.alloc (.cells #[.int .i64 h, .int .i64 m, .int .i64 s, .int .i64 f, .int .i64 r] 38))
  have C0 := Lib.hid (show (w2.alloc (.cells #[.int .i64 h, .int .i64 m, .int .i64 s, .int .i64 f, .int .i64 r] 38)).cell? ⟨w2.heap.size, 0, none⟩ = some (.int .i64 h) from World.cell?_alloc_at _ _ _ _ rfl)
  have C1 := Lib.hid (show (w2.alloc (.cells #[.int .i64 h, .int .i64 m, .int .i64 s, .int .i64 f, .int .i64 r] 38)).cell? ⟨w2.heap.size, 1, none⟩ = some (.int .i64 m) from World.cell?_alloc_at _ _ _ _ rfl)
  have C2 := Lib.hid (show (w2.alloc (.cells #[.int .i64 h, .int .i64 m, .int .i64 s, .int .i64 f, .int .i64 r] 38)).cell? ⟨w2.heap.size, 2, none⟩ = some (.int .i64 s) from World.cell?_alloc_at _ _ _ _ rfl)
  have C3 := Lib.hid (show (w2.alloc (.cells #[.int .i64 h, .int .i64 m, .int .i64 s, .int .i64 f, .int .i64 r] 38)).cell? ⟨w2.heap.size, 3, none⟩ = some (.int .i64 f) from World.cell?_alloc_at _ _ _ _ rfl)
  have C4 := Lib.hid (show (w2.alloc (.cells #[.int .i64 h, .int .i64 m, .int .i64 s, .int .i64 f, .int .i64 r] 38)).cell? ⟨w2.heap.size, 4, none⟩ = some (.int .i64 r) from World.cell?_alloc_at _ _ _ _ rfl)
  clear g2
  dsimp only
  go_wp2_with fail
  refine (KF1.out _).mono ?_
  rintro e w3 ⟨rfl, g3⟩
  have G3 := Lib.hid (GB.out.trans g3)
  have cb0 := g3.cell C0.out
  have CB0 := Lib.hid cb0
  have cb1 := g3.cell C1.out
  have CB1 := Lib.hid cb1
  have cb2 := g3.cell C2.out
  have CB2 := Lib.hid cb2
  have cb3 := g3.cell C3.out
  have CB3 := Lib.hid cb3
  have cb4 := g3.cell C4.out
  have CB4 := Lib.hid cb4
  clear g3 C0 C1 C2 C3 C4
  dsimp only
  go_wp2_with fail
  refine (KT.out _ G3.out).mono ?_
  rintro e w4 ⟨rfl, g4⟩
  have G4 := Lib.hid (G3.out.trans g4)
  clear cb0 cb1 cb2 cb3 cb4
  have CC0 := Lib.hid (g4.cell CB0.out)
  have CC1 := Lib.hid (g4.cell CB1.out)
  have CC2 := Lib.hid (g4.cell CB2.out)
  have CC3 := Lib.hid (g4.cell CB3.out)
  have CC4 := Lib.hid (g4.cell CB4.out)
  clear g4
  dsimp only
  go_wp2_with fail
  refine (KR.out _ G4.out).mono ?_
  rintro e w5 ⟨rfl, g5⟩
  have GE := Lib.hid ((G.refl w5).alloc (.cells #[.int .i64 h, .int .i64 m, .int .i64 s, .int .i64 f, .int .i64 r] 38))
  have G5 := Lib.hid ((G4.out.trans g5).trans GE.out)
  have ce0 := GE.out.cell (g5.cell CC0.out)
  have ce1 := GE.out.cell (g5.cell CC1.out)
  have ce2 := GE.out.cell (g5.cell CC2.out)
  have ce3 := GE.out.cell (g5.cell CC3.out)
  have ce4 := GE.out.cell (g5.cell CC4.out)
  clear g5
  dsimp only
  go_wp2_with fail
  refine (KS.out _).mono ?_
  rintro e w6 ⟨rfl, g6⟩
  have G6 := Lib.hid (G5.out.trans g6)
  clear g6 ce0 ce1 ce2 ce3 ce4
  dsimp only
  go_wp2_with fail
  refine (K1.out _ G6.out).mono ?_
  rintro e wa ⟨x2, y2, rfl, ga⟩
  have GA := Lib.hid (G6.out.trans ga)
  clear ga
  dsimp only
  have KF := Lib.hid (fun (W : World) => FrameAt_any x2 y2 W)
  by_cases hc2 : rateB y2 = true ∧ inB x2 0 86400000 = true
  case neg =>
    have e2 : faR x2 y2 = (0, 2) := by unfold faR; rw [if_neg hc2]
    rw [e2] at KF
    clear hc2 e2
    go_wp2_with fail
    refine (KF.out _).mono ?_
    rintro e wb ⟨rfl, gb⟩
    have GB := Lib.hid (GA.out.trans gb)
    clear gb
    dsimp only
    go_wp2
    go_ret
    exact ⟨rfl, GB.out⟩
  have hb2 := inB_iff.1 hc2.2
  obtain ⟨fa0, fa1, fa2, fa3⟩ := frame_at (rateB_iff.1 hc2.1) hb2.1 hb2.2
  have e2 : faR x2 y2 = (fAt x2 y2, 0) := by unfold faR; rw [if_pos hc2]
  have e3 : mlR (fAt x2 y2) y2 = (msN (fAt x2 y2) y2, 0) := by unfold mlR; rw [if_pos ⟨hc2.1, inB_iff.2 ⟨by omega, by omega⟩⟩]
  have e4 : mlR (fAt x2 y2 + 1) y2 = (msN (fAt x2 y2 + 1) y2, 0) := by unfold mlR; rw [if_pos ⟨hc2.1, inB_iff.2 ⟨by omega, by omega⟩⟩]
  have KM := Lib.hid (fun (W : World) => MilliOf_any (fAt x2 y2) y2 W)
  have KN := Lib.hid (fun (W : World) => MilliOf_any (fAt x2 y2 + 1) y2 W)
  rw [e2] at KF
  rw [e3] at KM
  rw [e4] at KN
  obtain ⟨q, HQ⟩ : ∃ q, Hid (fAt x2 y2 = q) := ⟨_, rfl⟩
  rw [HQ.out] at KF KM KN fa0 fa1 fa2 fa3
  obtain ⟨m1, HM1⟩ : ∃ z, Hid (msN q y2 = z) := ⟨_, rfl⟩
  obtain ⟨m2, HM2⟩ : ∃ z, Hid (msN (q + 1) y2 = z) := ⟨_, rfl⟩
  rw [HM1.out] at KM fa2
  rw [HM2.out] at KN fa3
  clear hc2 hb2 e2 e3 e4
  go_wp2_with fail
  refine (KF.out _).mono ?_
  rintro e wb ⟨rfl, gb⟩
  have GB := Lib.hid (GA.out.trans gb)
  clear gb
  dsimp only
  go_wp2_with fail
  refine (KM.out _).mono ?_
  rintro e wc ⟨rfl, gc⟩
  have GC := Lib.hid (GB.out.trans gc)
  clear gc
  dsimp only
  go_wp2_with fail
  refine (KN.out _).mono ?_
  rintro e wd ⟨rfl, gd⟩
  have GD := Lib.hid (GC.out.trans gd)
  clear gd
  dsimp only
  go_wp2
  go_ret
  exact ⟨ret_bool (by first | rfl | (simp; done) | (simp; omega)), GD.out⟩

end Go.Proofs.YtcoaldhmofdfgaaDoor
