/-
  Arguments of type Fixture and []Fixture opened.
-/
import Derived.Test.YtckenipmebeopaaDoorOpen
import Derived.Test.YtckenipmebeopaaDoorStFixture
namespace Go.Proofs.YtckenipmebeopaaDoor
open Go.ChangeShapes Go.WideShapes Go.ChangeAt Go.RowKit

theorem elem_Fixture {H : Type} {enc : TypeId × Value → H} {W : World} {base : Nat} {spare : Nat → Bool} {held : Bool} (fuel : Nat) (cs : List Value) (y : DataW H × List MemPlace)
    (h : DataW.trod enc Tryd.prog W base spare held fuel 23 cs = some y) : ∃ x : SFixture, cs = cFixture x ∧ WfFixture x := by
  obtain ⟨hl, n, hf⟩ := trod_fields Tryd.underlying23 (by kernel_rfl) h
  rw [show Tryd.prog.cellsOf 23 = 4 by kernel_rfl] at hl
  match cs, hl with
  | [c0, c1, c2, c3], _ =>
    obtain ⟨y0, t0⟩ := hf 0 _ c0 rfl rfl
    obtain ⟨s0, e0, _, b0⟩ := DataW.trod_string Tryd.underlying9 t0
    simp only [List.cons.injEq, and_true] at e0
    obtain ⟨y1, t1⟩ := hf 1 _ c1 rfl rfl
    obtain ⟨s1, e1, _, _⟩ := DataW.trod_int Tryd.underlying2 t1
    simp only [List.cons.injEq, and_true] at e1
    obtain ⟨y2, t2⟩ := hf 2 _ c2 rfl rfl
    obtain ⟨s2, e2, _, _⟩ := DataW.trod_int Tryd.underlying2 t2
    simp only [List.cons.injEq, and_true] at e2
    obtain ⟨y3, t3⟩ := hf 3 _ c3 rfl rfl
    obtain ⟨s3, e3, _, _⟩ := DataW.trod_int Tryd.underlying2 t3
    simp only [List.cons.injEq, and_true] at e3
    exact ⟨⟨s0, s1, s2, s3⟩, by rw [e0, e1, e2, e3]; rfl, b0⟩

def ArgFixture (w : World) (A : Option Addr) (n _c : Nat) (L : List SFixture) : Prop := n ≤ maxLen ∧ L.length = n ∧ Rd w A 4 cFixture L ∧ ∀ x ∈ L, WfFixture x
set_option maxRecDepth 100000 in
theorem arg_Fixture {H : Type} {enc : TypeId × Value → H} {W : World} {base b0 : Nat} {spare : Nat → Bool} {held : Bool} {r : Reach} {v : Value} {d : DataW H} {p : List MemPlace} (hv : Value.okWide Tryd.prog W r b0 23 v)
    (h : DataW.Trod enc Tryd.prog W base spare held 23 v d p) : ∃ x : SFixture, v = .agg #[.string x.Name, .int .i64 x.Universe, .int .i64 x.Address, .int .i64 x.Width] ∧ WfFixture x := by
  obtain ⟨cs, rfl, hsz⟩ := okWide_struct Tryd.underlying23 hv
  obtain ⟨fuel, hf⟩ := h
  obtain ⟨x, hx, hw⟩ := elem_Fixture _ _ _ hf
  refine ⟨x, ?_, hw⟩
  have : cs.toList = cFixture x := by simpa [Value.cells] using hx
  obtain ⟨l⟩ := cs
  simp only at this
  rw [this]
  rfl
end Go.Proofs.YtckenipmebeopaaDoor
