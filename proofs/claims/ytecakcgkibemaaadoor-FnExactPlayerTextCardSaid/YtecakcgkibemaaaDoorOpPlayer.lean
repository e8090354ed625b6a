/-
  Arguments of type Player opened.
-/
import Derived.Test.YtecakcgkibemaaaDoorStPlayer
import Derived.Deep.RegionHeld3
import Derived.Deep.DrawnRows
namespace Go.Proofs.YtecakcgkibemaaaDoor
open Go.ChangeShapes Go.WideShapes Go.ChangeAt Go.RowKit

structure SPl where
  A : Option Addr
  n : Nat
  c : Nat
  t : Int
  r : Int
  p : Bool
  L : List SCue
def ArgPl (W : World) (v : Value) (z : SPl) : Prop := v = pV z.A z.n z.c z.t z.r z.p ∧ ArgCue W z.A z.n z.c z.L ∧ ((Lit.int .i64 z.t).wf = true ∧ (Lit.int .i64 z.r).wf = true)
set_option maxRecDepth 20000 in
theorem arg_Player {H : Type} {enc : TypeId × Value → H} {W : World} {base b0 : Nat} {spare : Nat → Bool} {held : Bool} {r : Reach} {v : Value} {d : DataW H} {p : List MemPlace} (hv : Value.okWide Tryd.prog W r b0 24 v)
    (h : DataW.Trod enc Tryd.prog W base spare held 24 v d p) : ∃ z : SPl, ArgPl W v z := by
  obtain ⟨cs, rfl, hsz⟩ := okWide_struct Tryd.underlying24 hv
  obtain ⟨fuel, hf0⟩ := h
  obtain ⟨hl, n, hf⟩ := trod_fields Tryd.underlying24 (by kernel_rfl) hf0
  rw [show Tryd.prog.cellsOf 24 = 4 by kernel_rfl] at hl
  obtain ⟨l⟩ := cs
  simp only [Value.cells] at hl hf
  match l, hl with
  | [c0, c1, c2, c3], _ =>
    obtain ⟨y0, u0⟩ := hf 0 _ c0 rfl rfl
    obtain ⟨y1, u1⟩ := hf 1 _ c1 rfl rfl
    obtain ⟨s1, e1, _, w1⟩ := DataW.trod_int Tryd.underlying2 u1
    simp only [List.cons.injEq, and_true] at e1
    obtain ⟨y2, u2⟩ := hf 2 _ c2 rfl rfl
    obtain ⟨s2, e2, _, w2⟩ := DataW.trod_int Tryd.underlying2 u2
    simp only [List.cons.injEq, and_true] at e2
    obtain ⟨y3, u3⟩ := hf 3 _ c3 rfl rfl
    obtain ⟨s3, e3, _⟩ := DataW.trod_bool Tryd.underlying4 u3
    simp only [List.cons.injEq, and_true] at e3
    subst e1 e2 e3
    have hsl : ∃ (a : Option Addr) (m k : Nat), c0 = .slice a m k := by
      rcases Deep.open_slice Tryd.underlying22 u0 with ⟨hcs, _⟩ | ⟨ad, l, c, m, n, D, Pl, hcs, _, _, _, _, _, _⟩
      · simp only [List.cons.injEq, and_true] at hcs
        exact ⟨_, _, _, hcs⟩
      · simp only [List.cons.injEq, and_true] at hcs
        exact ⟨_, _, _, hcs⟩
    obtain ⟨a, m, k, rfl⟩ := hsl
    obtain ⟨L, hL⟩ := slice_Cue (enc := enc) (W := W) (base := base) (spare := spare) (held := held) (a := a) (len := m) (cap := k) (d := y0.1) (p := y0.2) ⟨n, by simpa [Value.cells] using u0⟩
    exact ⟨⟨a, m, k, s1, s2, s3, L⟩, rfl, hL, ⟨w1, w2⟩⟩
end Go.Proofs.YtecakcgkibemaaaDoor
