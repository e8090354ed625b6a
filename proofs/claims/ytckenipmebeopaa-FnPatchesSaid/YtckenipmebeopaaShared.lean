/-
  Walks: ValidFixture, SharedAddresses, by both texts.
-/
import Derived.Test.YtckenipmebeopaaFixture
namespace Go.Proofs.Ytckenipmebeopaa
open Go.RowKit

theorem iValidFixture_any (x : SFixture) (w : World) (hw : WfFixture x) :
    Calls Try.prog 32 #[.agg #[.string x.Name, .int .i64 x.Universe, .int .i64 x.Address, .int .i64 x.Width]] w fun e w' => e = .returned (.bool (vfB x)) ∧ G w w' := ValidFixture_any x w hw
set_option maxHeartbeats 400000 in
theorem sValidFixture_any (x : SFixture) (w : World) (hw : WfFixture x) :
    Calls Try.prog 19 #[.agg #[.string x.Name, .int .i64 x.Universe, .int .i64 x.Address, .int .i64 x.Width]] w fun e w' => e = .returned (.bool (vfB x)) ∧ G w w' := by
  go_enter Try.func19, Try.ntmps19
  go_wp2_with fail
  refine (l20One_any x hw _ _ _ (World.cell?_alloc_at _ _ _ _ rfl) (World.cell?_alloc_at _ _ _ _ rfl) (World.cell?_alloc_at _ _ _ _ rfl) (World.cell?_alloc_at _ _ _ _ rfl)).mono ?_
  rintro e w1 ⟨rfl, g1⟩
  go_wp2
  go_ret
  exact ⟨rfl, ((G.refl _).alloc _).trans g1⟩

def shR (x y : SFixture) : Int × Int := if vfB x && vfB y then (shF x y, 0) else (0, 1)

set_option maxHeartbeats 1000000 in
theorem iSharedAddresses_any (x y : SFixture) (w : World) (hx : WfFixture x) (hy : WfFixture y) :
    Calls Try.prog 16 #[.agg #[.string x.Name, .int .i64 x.Universe, .int .i64 x.Address, .int .i64 x.Width], .agg #[.string y.Name, .int .i64 y.Universe, .int .i64 y.Address, .int .i64 y.Width]] w fun e w' => e = .returned (.tuple #[.int .i64 (shR x y).1, .int .i64 (shR x y).2]) ∧ G w w' := by
  have K1 := Lib.hid (fun (W : World) => ValidFixture_any x W hx)
  have K2 := Lib.hid (fun (W : World) => ValidFixture_any y W hy)
  cases h1 : vfB x
  · have HD := Lib.hid (show shR x y = (0, 1) by simp [shR, h1])
    rw [h1] at K1
    go_enter Try.func16, Try.ntmps16
    go_wp2_with fail
    refine (K1.out _).mono ?_
    rintro e w1 ⟨rfl, g1⟩
    go_wp2
    go_ret2
    exact ⟨ret_ii HD.out, (((G.refl _).alloc _).alloc _).trans g1⟩
  · cases h2 : vfB y
    · have HD := Lib.hid (show shR x y = (0, 1) by simp [shR, h2])
      rw [h1] at K1
      rw [h2] at K2
      have a1 := Lib.hid (fun (w1 : World) (g1 : G ((w.alloc (.cells #[.string x.Name, .int .i64 x.Universe, .int .i64 x.Address, .int .i64 x.Width] 34)).alloc (.cells #[.string y.Name, .int .i64 y.Universe, .int .i64 y.Address, .int .i64 y.Width] 34)) w1) => g1)
      go_enter Try.func16, Try.ntmps16
      go_wp2_with fail
      refine (K1.out _).mono ?_
      rintro e w1 ⟨rfl, g1⟩
      have c0 := g1.cell (p := ⟨w.heap.size + 1, 0, none⟩) (v := .string y.Name) (by simp [World.cell?_alloc_at])
      have c1 := g1.cell (p := ⟨w.heap.size + 1, 1, none⟩) (v := .int .i64 y.Universe) (by simp [World.cell?_alloc_at])
      have c2 := g1.cell (p := ⟨w.heap.size + 1, 2, none⟩) (v := .int .i64 y.Address) (by simp [World.cell?_alloc_at])
      have c3 := g1.cell (p := ⟨w.heap.size + 1, 3, none⟩) (v := .int .i64 y.Width) (by simp [World.cell?_alloc_at])
      have G1 := Lib.hid g1
      clear g1
      go_wp2_with fail
      refine (K2.out _).mono ?_
      rintro e w2 ⟨rfl, g2⟩
      go_wp2
      go_ret2
      exact ⟨ret_ii HD.out, ((((G.refl _).alloc _).alloc _).trans G1.out).trans g2⟩
    · have HD := Lib.hid (show shR x y = (shF x y, 0) by simp [shR, h1, h2])
      have m1 := Mid_of h1
      have m2 := Mid_of h2
      rw [h1] at K1
      rw [h2] at K2
      go_enter Try.func16, Try.ntmps16
      go_wp2_with fail
      refine (K1.out _).mono ?_
      rintro e w1 ⟨rfl, g1⟩
      have c0 := g1.cell (p := ⟨w.heap.size + 1, 0, none⟩) (v := .string y.Name) (by simp [World.cell?_alloc_at])
      have c1 := g1.cell (p := ⟨w.heap.size + 1, 1, none⟩) (v := .int .i64 y.Universe) (by simp [World.cell?_alloc_at])
      have c2 := g1.cell (p := ⟨w.heap.size + 1, 2, none⟩) (v := .int .i64 y.Address) (by simp [World.cell?_alloc_at])
      have c3 := g1.cell (p := ⟨w.heap.size + 1, 3, none⟩) (v := .int .i64 y.Width) (by simp [World.cell?_alloc_at])
      have d0 := g1.cell (p := ⟨w.heap.size, 0, none⟩) (v := .string x.Name) (by simp [World.cell?_alloc_at, World.cell?_alloc_past])
      have d1 := g1.cell (p := ⟨w.heap.size, 1, none⟩) (v := .int .i64 x.Universe) (by simp [World.cell?_alloc_at, World.cell?_alloc_past])
      have d2 := g1.cell (p := ⟨w.heap.size, 2, none⟩) (v := .int .i64 x.Address) (by simp [World.cell?_alloc_at, World.cell?_alloc_past])
      have d3 := g1.cell (p := ⟨w.heap.size, 3, none⟩) (v := .int .i64 x.Width) (by simp [World.cell?_alloc_at, World.cell?_alloc_past])
      have G1 := Lib.hid g1
      clear g1
      go_wp2_with fail
      refine (K2.out _).mono ?_
      rintro e w2 ⟨rfl, g2⟩
      replace c0 := g2.cell c0
      replace c1 := g2.cell c1
      replace c2 := g2.cell c2
      replace c3 := g2.cell c3
      replace d0 := g2.cell d0
      replace d1 := g2.cell d1
      replace d2 := g2.cell d2
      replace d3 := g2.cell d3
      have G2 := Lib.hid (G1.out.trans g2)
      clear g2
      go_wp2_with fail
      refine (sharedAddresses_any x y m1 m2 _).mono ?_
      rintro e w3 ⟨rfl, g3⟩
      go_wp2
      go_ret2
      exact ⟨ret_ii HD.out, ((((G.refl _).alloc _).alloc _).trans G2.out).trans g3⟩

end Go.Proofs.Ytckenipmebeopaa
