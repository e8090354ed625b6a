/-
  The law of SharedAddresses, walked.
-/
import Derived.Test.YthghcpgeddepnaaShared
import Derived.Test.YthghcpgeddepnaaOpFixture
namespace Go.Proofs.Ythghcpgeddepnaa
open Go.RowKit

set_option maxRecDepth 20000 in
set_option maxHeartbeats 4000000 in
theorem lawSharedAddresses (v0 : Value) (x0 : SFixture) (v1 : Value) (x1 : SFixture) (w : World) (h0 : v0 = .agg #[.string x0.Name, .int .i64 x0.Universe, .int .i64 x0.Address, .int .i64 x0.Width] ∧ WfFixture x0) (h1 : v1 = .agg #[.string x1.Name, .int .i64 x1.Universe, .int .i64 x1.Address, .int .i64 x1.Width] ∧ WfFixture x1) :
    Calls Try.prog 4 #[v0, v1] w fun e w' => e = .returned (.bool true) ∧ Below w.heap.size w w' := by
  obtain ⟨rfl, hw0⟩ := h0
  have HW0 := Lib.hid hw0
  clear hw0
  have t0 := szFixture_nonneg x0
  obtain ⟨rfl, hw1⟩ := h1
  have HW1 := Lib.hid hw1
  clear hw1
  have t1 := szFixture_nonneg x1
  by_cases q0 : (1048576 : Int) - szFixture x0 < 0
  case pos =>
    have HZ := Lib.hid (szR_neg q0)
    go_enter Try.func4, Try.ntmps4
    go_wp2_with fail
    refine (szFixture_any x0 _ _ HW0.out (by omega) (by omega)).mono ?_
    rintro e w1 ⟨rfl, g1⟩
    have cb0_0 := g1.cell (p := ⟨w.heap.size, 0, none⟩) (v := .string x0.Name) (by simp [World.cell?_alloc_at, World.cell?_alloc_past])
    have cb0_1 := g1.cell (p := ⟨w.heap.size, 1, none⟩) (v := .int .i64 x0.Universe) (by simp [World.cell?_alloc_at, World.cell?_alloc_past])
    have cb0_2 := g1.cell (p := ⟨w.heap.size, 2, none⟩) (v := .int .i64 x0.Address) (by simp [World.cell?_alloc_at, World.cell?_alloc_past])
    have cb0_3 := g1.cell (p := ⟨w.heap.size, 3, none⟩) (v := .int .i64 x0.Width) (by simp [World.cell?_alloc_at, World.cell?_alloc_past])
    have cb1_0 := g1.cell (p := ⟨w.heap.size + 1, 0, none⟩) (v := .string x1.Name) (by simp [World.cell?_alloc_at])
    have cb1_1 := g1.cell (p := ⟨w.heap.size + 1, 1, none⟩) (v := .int .i64 x1.Universe) (by simp [World.cell?_alloc_at])
    have cb1_2 := g1.cell (p := ⟨w.heap.size + 1, 2, none⟩) (v := .int .i64 x1.Address) (by simp [World.cell?_alloc_at])
    have cb1_3 := g1.cell (p := ⟨w.heap.size + 1, 3, none⟩) (v := .int .i64 x1.Width) (by simp [World.cell?_alloc_at])
    have G1 := Lib.hid ((((G.refl _).alloc _).alloc _).trans g1)
    clear g1
    rw [HZ.out]
    go_wp2
    go_ret
    exact ⟨rfl, G1.out⟩
  have HZ0 := Lib.hid (szR_pos (y := (1048576 : Int) - szFixture x0) (by omega))
  by_cases q1 : (1048576 : Int) - szFixture x0 - szFixture x1 < 0
  case pos =>
    have HZ := Lib.hid (szR_neg q1)
    go_enter Try.func4, Try.ntmps4
    go_wp2_with fail
    refine (szFixture_any x0 _ _ HW0.out (by omega) (by omega)).mono ?_
    rintro e w1 ⟨rfl, g1⟩
    have cb0_0 := g1.cell (p := ⟨w.heap.size, 0, none⟩) (v := .string x0.Name) (by simp [World.cell?_alloc_at, World.cell?_alloc_past])
    have cb0_1 := g1.cell (p := ⟨w.heap.size, 1, none⟩) (v := .int .i64 x0.Universe) (by simp [World.cell?_alloc_at, World.cell?_alloc_past])
    have cb0_2 := g1.cell (p := ⟨w.heap.size, 2, none⟩) (v := .int .i64 x0.Address) (by simp [World.cell?_alloc_at, World.cell?_alloc_past])
    have cb0_3 := g1.cell (p := ⟨w.heap.size, 3, none⟩) (v := .int .i64 x0.Width) (by simp [World.cell?_alloc_at, World.cell?_alloc_past])
    have cb1_0 := g1.cell (p := ⟨w.heap.size + 1, 0, none⟩) (v := .string x1.Name) (by simp [World.cell?_alloc_at])
    have cb1_1 := g1.cell (p := ⟨w.heap.size + 1, 1, none⟩) (v := .int .i64 x1.Universe) (by simp [World.cell?_alloc_at])
    have cb1_2 := g1.cell (p := ⟨w.heap.size + 1, 2, none⟩) (v := .int .i64 x1.Address) (by simp [World.cell?_alloc_at])
    have cb1_3 := g1.cell (p := ⟨w.heap.size + 1, 3, none⟩) (v := .int .i64 x1.Width) (by simp [World.cell?_alloc_at])
    have G1 := Lib.hid ((((G.refl _).alloc _).alloc _).trans g1)
    clear g1
    rw [HZ0.out]
    go_wp2_with fail
    refine (szFixture_any x1 _ _ HW1.out (by omega) (by omega)).mono ?_
    rintro e w2 ⟨rfl, g2⟩
    replace cb0_0 := g2.cell cb0_0
    replace cb0_1 := g2.cell cb0_1
    replace cb0_2 := g2.cell cb0_2
    replace cb0_3 := g2.cell cb0_3
    replace cb1_0 := g2.cell cb1_0
    replace cb1_1 := g2.cell cb1_1
    replace cb1_2 := g2.cell cb1_2
    replace cb1_3 := g2.cell cb1_3
    have G2 := Lib.hid (G1.out.trans g2)
    clear g2
    rw [HZ.out]
    go_wp2
    go_ret
    exact ⟨rfl, G2.out⟩
  have HZ1 := Lib.hid (szR_pos (y := (1048576 : Int) - szFixture x0 - szFixture x1) (by omega))
  obtain ⟨R, HX⟩ : ∃ R, Hid (shR x0 x1 = R) := ⟨_, rfl⟩
  go_enter Try.func4, Try.ntmps4
  go_wp2_with fail
  refine (szFixture_any x0 _ _ HW0.out (by omega) (by omega)).mono ?_
  rintro e w1 ⟨rfl, g1⟩
  have cb0_0 := g1.cell (p := ⟨w.heap.size, 0, none⟩) (v := .string x0.Name) (by simp [World.cell?_alloc_at, World.cell?_alloc_past])
  have cb0_1 := g1.cell (p := ⟨w.heap.size, 1, none⟩) (v := .int .i64 x0.Universe) (by simp [World.cell?_alloc_at, World.cell?_alloc_past])
  have cb0_2 := g1.cell (p := ⟨w.heap.size, 2, none⟩) (v := .int .i64 x0.Address) (by simp [World.cell?_alloc_at, World.cell?_alloc_past])
  have cb0_3 := g1.cell (p := ⟨w.heap.size, 3, none⟩) (v := .int .i64 x0.Width) (by simp [World.cell?_alloc_at, World.cell?_alloc_past])
  have cb1_0 := g1.cell (p := ⟨w.heap.size + 1, 0, none⟩) (v := .string x1.Name) (by simp [World.cell?_alloc_at])
  have cb1_1 := g1.cell (p := ⟨w.heap.size + 1, 1, none⟩) (v := .int .i64 x1.Universe) (by simp [World.cell?_alloc_at])
  have cb1_2 := g1.cell (p := ⟨w.heap.size + 1, 2, none⟩) (v := .int .i64 x1.Address) (by simp [World.cell?_alloc_at])
  have cb1_3 := g1.cell (p := ⟨w.heap.size + 1, 3, none⟩) (v := .int .i64 x1.Width) (by simp [World.cell?_alloc_at])
  have G1 := Lib.hid ((((G.refl _).alloc _).alloc _).trans g1)
  clear g1
  rw [HZ0.out]
  go_wp2_with fail
  refine (szFixture_any x1 _ _ HW1.out (by omega) (by omega)).mono ?_
  rintro e w2 ⟨rfl, g2⟩
  replace cb0_0 := g2.cell cb0_0
  replace cb0_1 := g2.cell cb0_1
  replace cb0_2 := g2.cell cb0_2
  replace cb0_3 := g2.cell cb0_3
  replace cb1_0 := g2.cell cb1_0
  replace cb1_1 := g2.cell cb1_1
  replace cb1_2 := g2.cell cb1_2
  replace cb1_3 := g2.cell cb1_3
  have G2 := Lib.hid (G1.out.trans g2)
  clear g2
  rw [HZ1.out]
  go_wp2_with fail
  have cg0_0 := cellR cb0_0
  have cg0_1 := cellR cb0_1
  have cg0_2 := cellR cb0_2
  have cg0_3 := cellR cb0_3
  have cg1_0 := cellR cb1_0
  have cg1_1 := cellR cb1_1
  have cg1_2 := cellR cb1_2
  have cg1_3 := cellR cb1_3
  refine region_quiet_G (by kernel_rfl) (by kernel_rfl) ?_; (repeat (go_big_quiet_step ((first | (go_at_call 16; with_reducible exact quiet_G (toFixture_any x0 _)) | (go_at_call 16; with_reducible exact quiet_G (toFixture_any x1 _)) | (go_at_call 18; exact quiet_G (sSharedAddresses_any x0 x1 _ HW0.out HW1.out)))))); refine wpQuiet_nil ?_
  intro w3 g3
  clear cg0_0 cg0_1 cg0_2 cg0_3 cg1_0 cg1_1 cg1_2 cg1_3
  replace cb0_0 := g3.cell cb0_0
  replace cb0_1 := g3.cell cb0_1
  replace cb0_2 := g3.cell cb0_2
  replace cb0_3 := g3.cell cb0_3
  replace cb1_0 := g3.cell cb1_0
  replace cb1_1 := g3.cell cb1_1
  replace cb1_2 := g3.cell cb1_2
  replace cb1_3 := g3.cell cb1_3
  have G3 := Lib.hid (G2.out.trans g3)
  clear g3
  rw [HX.out]
  go_wp2_with fail
  have cg0_0 := cellR cb0_0
  have cg0_1 := cellR cb0_1
  have cg0_2 := cellR cb0_2
  have cg0_3 := cellR cb0_3
  have cg1_0 := cellR cb1_0
  have cg1_1 := cellR cb1_1
  have cg1_2 := cellR cb1_2
  have cg1_3 := cellR cb1_3
  refine region_quiet_G (by kernel_rfl) (by kernel_rfl) ?_; (repeat (go_big_quiet_step ((first | (go_at_call 16; with_reducible exact quiet_G (toFixture_any x0 _)) | (go_at_call 16; with_reducible exact quiet_G (toFixture_any x1 _)) | (go_at_call 19; exact quiet_G (iSharedAddresses_any x0 x1 _ HW0.out HW1.out)))))); refine wpQuiet_nil ?_
  intro w4 g4
  clear cg0_0 cg0_1 cg0_2 cg0_3 cg1_0 cg1_1 cg1_2 cg1_3
  replace cb0_0 := g4.cell cb0_0
  replace cb0_1 := g4.cell cb0_1
  replace cb0_2 := g4.cell cb0_2
  replace cb0_3 := g4.cell cb0_3
  replace cb1_0 := g4.cell cb1_0
  replace cb1_1 := g4.cell cb1_1
  replace cb1_2 := g4.cell cb1_2
  replace cb1_3 := g4.cell cb1_3
  have G4 := Lib.hid (G3.out.trans g4)
  clear g4
  rw [HX.out]
  go_wp2
  go_ret
  exact ⟨rfl, G4.out⟩
end Go.Proofs.Ythghcpgeddepnaa
