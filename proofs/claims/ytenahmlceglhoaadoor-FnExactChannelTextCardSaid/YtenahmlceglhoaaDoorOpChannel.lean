/-
  Arguments of type Channel and []Channel opened.
-/
import Derived.Test.YtenahmlceglhoaaDoorOpen
import Derived.Test.YtenahmlceglhoaaDoorStChannel
namespace Go.Proofs.YtenahmlceglhoaaDoor
open Go.ChangeShapes Go.WideShapes Go.ChangeAt Go.RowKit

theorem elem_Channel {H : Type} {enc : TypeId × Value → H} {W : World} {base : Nat} {spare : Nat → Bool} {held : Bool} (fuel : Nat) (cs : List Value) (y : DataW H × List MemPlace)
    (h : DataW.trod enc Tryd.prog W base spare held fuel 23 cs = some y) : ∃ x : SChannel, cs = cChannel x ∧ WfChannel x := by
  obtain ⟨hl, n, hf⟩ := trod_fields Tryd.underlying23 (by kernel_rfl) h
  rw [show Tryd.prog.cellsOf 23 = 4 by kernel_rfl] at hl
  match cs, hl with
  | [c0, c1, c2, c3], _ =>
    obtain ⟨y0, t0⟩ := hf 0 _ c0 rfl rfl
    obtain ⟨s0, e0, _, b0⟩ := DataW.trod_string Tryd.underlying9 t0
    simp only [List.cons.injEq, and_true] at e0
    obtain ⟨y1, t1⟩ := hf 1 _ c1 rfl rfl
    obtain ⟨s1, e1, _, _⟩ := DataW.trod_int Tryd.underlying2 t1
    simp only [List.cons.injEq, and_true] at e1
    obtain ⟨y2, t2⟩ := hf 2 _ c2 rfl rfl
    obtain ⟨s2, e2, _, _⟩ := DataW.trod_int Tryd.underlying2 t2
    simp only [List.cons.injEq, and_true] at e2
    obtain ⟨y3, t3⟩ := hf 3 _ c3 rfl rfl
    obtain ⟨s3, e3, _⟩ := DataW.trod_bool Tryd.underlying4 t3
    simp only [List.cons.injEq, and_true] at e3
    exact ⟨⟨s0, s1, s2, s3⟩, by rw [e0, e1, e2, e3]; rfl, b0⟩

def ArgChannel (w : World) (A : Option Addr) (n _c : Nat) (L : List SChannel) : Prop := n ≤ maxLen ∧ L.length = n ∧ Rd w A 4 cChannel L ∧ ∀ x ∈ L, WfChannel x
set_option maxRecDepth 100000 in
theorem arg_Channel {H : Type} {enc : TypeId × Value → H} {W : World} {base b0 : Nat} {spare : Nat → Bool} {held : Bool} {r : Reach} {v : Value} {d : DataW H} {p : List MemPlace} (hv : Value.okWide Tryd.prog W r b0 23 v)
    (h : DataW.Trod enc Tryd.prog W base spare held 23 v d p) : ∃ x : SChannel, v = .agg #[.string x.Name, .int .i64 x.Gain, .int .i64 x.Pan, .bool x.Muted] ∧ WfChannel x := by
  obtain ⟨cs, rfl, hsz⟩ := okWide_struct Tryd.underlying23 hv
  obtain ⟨fuel, hf⟩ := h
  obtain ⟨x, hx, hw⟩ := elem_Channel _ _ _ hf
  refine ⟨x, ?_, hw⟩
  have : cs.toList = cChannel x := by simpa [Value.cells] using hx
  obtain ⟨l⟩ := cs
  simp only at this
  rw [this]
  rfl
end Go.Proofs.YtenahmlceglhoaaDoor
