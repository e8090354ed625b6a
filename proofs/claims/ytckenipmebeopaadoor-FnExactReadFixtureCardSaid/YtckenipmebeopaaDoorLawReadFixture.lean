/-
  The law of ReadFixture, walked.
-/
import Derived.Test.YtckenipmebeopaaDoorRdFx
namespace Go.Proofs.YtckenipmebeopaaDoor
open Go.RowKit

set_option maxRecDepth 20000 in
set_option maxHeartbeats 4000000 in
theorem lawReadFixture (t0 : ByteArray) (w : World) (hE : Env w) (_h0 : t0.size ≤ maxLen) :
    Calls Tryd.prog 4 #[.string t0] w fun e w' => e = .returned (.bool true) ∧ Below w.heap.size w w' := by
  have HE := Lib.hid hE
  clear hE
  by_cases hbig0 : t0.size ≤ 1048576
  case neg =>
    go_enter Tryd.func4, Tryd.ntmps4
    go_wp2
    go_ret
    exact ⟨rfl, (G.refl _)⟩
  have KS := Lib.hid (fun (W : World) => sReadFixture_any t0 W hbig0)
  have KI := Lib.hid (fun (W : World) (g : G w W) => iReadFixture_any t0 W hbig0 (HE.out.G g))
  obtain ⟨R, HX⟩ : ∃ R, Hid (rfR t0 = R) := ⟨_, rfl⟩
  rw [HX.out] at KS KI
  obtain ⟨RL, rb⟩ := R
  clear HX
  cases rb
  · go_enter Tryd.func4, Tryd.ntmps4
    go_wp2_with fail
    refine (KS.out _).mono ?_
    rintro e w1 ⟨rfl, g1⟩
    have G1 := Lib.hid g1
    clear g1
    dsimp only
    have GB := Lib.hid ((G.refl w1).alloc (.cells #[.string RL.Name, .int .i64 RL.Universe, .int .i64 RL.Address, .int .i64 RL.Width] 26))
    go_wp2_with fail
    refine (KI.out _ (G1.out.trans GB.out)).mono ?_
    rintro e w2 ⟨rfl, g2⟩
    have G2 := Lib.hid ((G1.out.trans GB.out).trans g2)
    have cb0 := g2.cell (p := ⟨w1.heap.size, 0, none⟩) (v := .string RL.Name) (World.cell?_alloc_at _ _ _ _ rfl)
    have cb1 := g2.cell (p := ⟨w1.heap.size, 1, none⟩) (v := .int .i64 RL.Universe) (World.cell?_alloc_at _ _ _ _ rfl)
    have cb2 := g2.cell (p := ⟨w1.heap.size, 2, none⟩) (v := .int .i64 RL.Address) (World.cell?_alloc_at _ _ _ _ rfl)
    have cb3 := g2.cell (p := ⟨w1.heap.size, 3, none⟩) (v := .int .i64 RL.Width) (World.cell?_alloc_at _ _ _ _ rfl)
    clear g2
    have GB2 := Lib.hid ((G.refl w2).alloc (.cells #[.string RL.Name, .int .i64 RL.Universe, .int .i64 RL.Address, .int .i64 RL.Width] 26))
    have cc0 := GB2.out.cell cb0
    have cc1 := GB2.out.cell cb1
    have cc2 := GB2.out.cell cb2
    have cc3 := GB2.out.cell cb3
    dsimp only
    go_wp2_with fail
    refine (eqFixture_same RL _).mono ?_
    rintro e w3 ⟨rfl, g3⟩
    have G3 := Lib.hid ((G2.out.trans GB2.out).trans g3)
    clear g3
    dsimp only
    go_wp2
    go_ret
    exact ⟨rfl, G3.out⟩
  · go_enter Tryd.func4, Tryd.ntmps4
    go_wp2_with fail
    refine (KS.out _).mono ?_
    rintro e w1 ⟨rfl, g1⟩
    have G1 := Lib.hid g1
    clear g1
    dsimp only
    have GB := Lib.hid ((G.refl w1).alloc (.cells #[.string RL.Name, .int .i64 RL.Universe, .int .i64 RL.Address, .int .i64 RL.Width] 26))
    go_wp2_with fail
    refine (KI.out _ (G1.out.trans GB.out)).mono ?_
    rintro e w2 ⟨rfl, g2⟩
    have G2 := Lib.hid ((G1.out.trans GB.out).trans g2)
    have cb0 := g2.cell (p := ⟨w1.heap.size, 0, none⟩) (v := .string RL.Name) (World.cell?_alloc_at _ _ _ _ rfl)
    have cb1 := g2.cell (p := ⟨w1.heap.size, 1, none⟩) (v := .int .i64 RL.Universe) (World.cell?_alloc_at _ _ _ _ rfl)
    have cb2 := g2.cell (p := ⟨w1.heap.size, 2, none⟩) (v := .int .i64 RL.Address) (World.cell?_alloc_at _ _ _ _ rfl)
    have cb3 := g2.cell (p := ⟨w1.heap.size, 3, none⟩) (v := .int .i64 RL.Width) (World.cell?_alloc_at _ _ _ _ rfl)
    clear g2
    have GB2 := Lib.hid ((G.refl w2).alloc (.cells #[.string RL.Name, .int .i64 RL.Universe, .int .i64 RL.Address, .int .i64 RL.Width] 26))
    have cc0 := GB2.out.cell cb0
    have cc1 := GB2.out.cell cb1
    have cc2 := GB2.out.cell cb2
    have cc3 := GB2.out.cell cb3
    dsimp only
    go_wp2_with fail
    refine (eqFixture_same RL _).mono ?_
    rintro e w3 ⟨rfl, g3⟩
    have G3 := Lib.hid ((G2.out.trans GB2.out).trans g3)
    clear g3
    dsimp only
    go_wp2
    go_ret
    exact ⟨rfl, G3.out⟩
end Go.Proofs.YtckenipmebeopaaDoor
