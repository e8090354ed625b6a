/-
  The law of FixtureText, walked.
-/
import Derived.Test.YtckenipmebeopaaDoorFixText
import Derived.Test.YtckenipmebeopaaDoorOpFixture
namespace Go.Proofs.YtckenipmebeopaaDoor
open Go.RowKit

set_option maxRecDepth 20000 in
set_option maxHeartbeats 4000000 in
theorem lawFixtureText (v0 : Value) (x0 : SFixture) (w : World) (htp : TabP w) (h0 : v0 = .agg #[.string x0.Name, .int .i64 x0.Universe, .int .i64 x0.Address, .int .i64 x0.Width] ∧ WfFixture x0) :
    Calls Tryd.prog 3 #[v0] w fun e w' => e = .returned (.bool true) ∧ Below w.heap.size w w' := by
  have HTP := Lib.hid htp
  clear htp
  obtain ⟨rfl, hw0⟩ := h0
  have HW0 := Lib.hid hw0
  clear hw0
  have t0 := szFixture_nonneg x0
  by_cases q0 : (1048576 : Int) - szFixture x0 < 0
  case pos =>
    have HZ := Lib.hid (szR_neg q0)
    go_enter Tryd.func3, Tryd.ntmps3
    go_wp2_with fail
    refine (szFixture_any x0 _ _ HW0.out (by omega) (by omega)).mono ?_
    rintro e w1 ⟨rfl, g1⟩
    have cb0_0 := g1.cell (p := ⟨w.heap.size, 0, none⟩) (v := .string x0.Name) (by simp [World.cell?_alloc_at])
    have cb0_1 := g1.cell (p := ⟨w.heap.size, 1, none⟩) (v := .int .i64 x0.Universe) (by simp [World.cell?_alloc_at])
    have cb0_2 := g1.cell (p := ⟨w.heap.size, 2, none⟩) (v := .int .i64 x0.Address) (by simp [World.cell?_alloc_at])
    have cb0_3 := g1.cell (p := ⟨w.heap.size, 3, none⟩) (v := .int .i64 x0.Width) (by simp [World.cell?_alloc_at])
    have G1 := Lib.hid (((G.refl _).alloc _).trans g1)
    clear g1
    rw [HZ.out]
    go_wp2
    go_ret
    exact ⟨rfl, G1.out⟩
  have HZ0 := Lib.hid (szR_pos (y := (1048576 : Int) - szFixture x0) (by omega))
  obtain ⟨R, HX⟩ : ∃ R, Hid (fixTx x0 = R) := ⟨_, rfl⟩
  go_enter Tryd.func3, Tryd.ntmps3
  go_wp2_with fail
  refine (szFixture_any x0 _ _ HW0.out (by omega) (by omega)).mono ?_
  rintro e w1 ⟨rfl, g1⟩
  have cb0_0 := g1.cell (p := ⟨w.heap.size, 0, none⟩) (v := .string x0.Name) (by simp [World.cell?_alloc_at])
  have cb0_1 := g1.cell (p := ⟨w.heap.size, 1, none⟩) (v := .int .i64 x0.Universe) (by simp [World.cell?_alloc_at])
  have cb0_2 := g1.cell (p := ⟨w.heap.size, 2, none⟩) (v := .int .i64 x0.Address) (by simp [World.cell?_alloc_at])
  have cb0_3 := g1.cell (p := ⟨w.heap.size, 3, none⟩) (v := .int .i64 x0.Width) (by simp [World.cell?_alloc_at])
  have G1 := Lib.hid (((G.refl _).alloc _).trans g1)
  clear g1
  rw [HZ0.out]
  have s0 := G1.out.size
  have s0v0 := block_lt_of_cell cb0_0
  simp only at s0v0
  go_wp2_with fail
  refine (toFixture_any x0 _).mono ?_
  rintro e w2 ⟨rfl, g2⟩
  have s2 := g2.size
  replace cb0_0 := g2.cell cb0_0
  replace cb0_1 := g2.cell cb0_1
  replace cb0_2 := g2.cell cb0_2
  replace cb0_3 := g2.cell cb0_3
  have G2 := Lib.hid (G1.out.trans g2)
  clear g2
  go_wp2_with fail
  refine (sFixtureText_any x0 _ HW0.out).mono ?_
  rintro e w3 ⟨rfl, g3⟩
  have s3 := g3.size
  replace cb0_0 := g3.cell cb0_0
  replace cb0_1 := g3.cell cb0_1
  replace cb0_2 := g3.cell cb0_2
  replace cb0_3 := g3.cell cb0_3
  have G3 := Lib.hid (G2.out.trans g3)
  clear g3
  rw [HX.out]
  go_wp2_with fail
  refine (toFixture_any x0 _).mono ?_
  rintro e w4 ⟨rfl, g4⟩
  have s4 := g4.size
  replace cb0_0 := g4.cell cb0_0
  replace cb0_1 := g4.cell cb0_1
  replace cb0_2 := g4.cell cb0_2
  replace cb0_3 := g4.cell cb0_3
  have G4 := Lib.hid (G3.out.trans g4)
  clear g4
  go_wp2_with fail
  refine (iFixtureText_any x0 _ HW0.out (HTP.out.G G4.out)).mono ?_
  rintro e w5 ⟨rfl, g5⟩
  have s5 := g5.size
  replace cb0_0 := g5.cell cb0_0
  replace cb0_1 := g5.cell cb0_1
  replace cb0_2 := g5.cell cb0_2
  replace cb0_3 := g5.cell cb0_3
  have G5 := Lib.hid (G4.out.trans g5)
  clear g5
  rw [HX.out]
  go_wp2
  go_ret
  exact ⟨rfl, G5.out⟩
end Go.Proofs.YtckenipmebeopaaDoor
