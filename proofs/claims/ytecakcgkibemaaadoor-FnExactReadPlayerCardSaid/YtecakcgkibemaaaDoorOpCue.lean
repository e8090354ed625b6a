/-
  Arguments of type Cue and []Cue opened.
-/
import Derived.Test.YtecakcgkibemaaaDoorOpen
import Derived.Test.YtecakcgkibemaaaDoorStCue
namespace Go.Proofs.YtecakcgkibemaaaDoor
open Go.ChangeShapes Go.WideShapes Go.ChangeAt Go.RowKit

theorem elem_Cue {H : Type} {enc : TypeId × Value → H} {W : World} {base : Nat} {spare : Nat → Bool} {held : Bool} (fuel : Nat) (cs : List Value) (y : DataW H × List MemPlace)
    (h : DataW.trod enc Tryd.prog W base spare held fuel 61 cs = some y) : ∃ x : SCue, cs = cCue x ∧ WfCue x := by
  obtain ⟨hl, n, hf⟩ := trod_fields Tryd.underlying61 (by kernel_rfl) h
  rw [show Tryd.prog.cellsOf 61 = 6 by kernel_rfl] at hl
  match cs, hl with
  | [c0, c1, c2, c3, c4, c5], _ =>
    obtain ⟨y0, t0⟩ := hf 0 _ c0 rfl rfl
    obtain ⟨s0, e0, _, b0⟩ := DataW.trod_string Tryd.underlying9 t0
    simp only [List.cons.injEq, and_true] at e0
    obtain ⟨y1, t1⟩ := hf 1 _ c1 rfl rfl
    obtain ⟨s1, e1, _, _⟩ := DataW.trod_int Tryd.underlying2 t1
    simp only [List.cons.injEq, and_true] at e1
    obtain ⟨y2, t2⟩ := hf 2 _ c2 rfl rfl
    obtain ⟨s2, e2, _, _⟩ := DataW.trod_int Tryd.underlying2 t2
    simp only [List.cons.injEq, and_true] at e2
    obtain ⟨y3, t3⟩ := hf 3 _ c3 rfl rfl
    obtain ⟨s3, e3, _, b3⟩ := DataW.trod_string Tryd.underlying9 t3
    simp only [List.cons.injEq, and_true] at e3
    obtain ⟨y4, t4⟩ := hf 4 _ c4 rfl rfl
    obtain ⟨s4, e4, _, _⟩ := DataW.trod_int Tryd.underlying2 t4
    simp only [List.cons.injEq, and_true] at e4
    obtain ⟨y5, t5⟩ := hf 5 _ c5 rfl rfl
    obtain ⟨s5, e5, _, _⟩ := DataW.trod_int Tryd.underlying2 t5
    simp only [List.cons.injEq, and_true] at e5
    exact ⟨⟨s0, s1, s2, s3, s4, s5⟩, by rw [e0, e1, e2, e3, e4, e5]; rfl, ⟨b0, b3⟩⟩

def ArgCue (w : World) (A : Option Addr) (n _c : Nat) (L : List SCue) : Prop := n ≤ maxLen ∧ L.length = n ∧ Rd w A 6 cCue L ∧ ∀ x ∈ L, WfCue x
theorem slice_Cue {H : Type} {enc : TypeId × Value → H} {W : World} {base : Nat} {spare : Nat → Bool} {held : Bool} {a : Option Addr} {len cap : Nat} {d : DataW H} {p : List MemPlace}
    (h : DataW.Trod enc Tryd.prog W base spare held 22 (.slice a len cap) d p) : ∃ L, ArgCue W a len cap L := by
  obtain ⟨L, h1, h2, h3, h4⟩ := slice_elems (f := cCue) (wf := WfCue) Tryd.underlying22 (show Tryd.prog.cellsOf 61 = 6 by kernel_rfl) (by decide) elem_Cue h
  exact ⟨L, h1, h2, h3, h4⟩
set_option maxRecDepth 20000 in
theorem arg_Cue {H : Type} {enc : TypeId × Value → H} {W : World} {base b0 : Nat} {spare : Nat → Bool} {held : Bool} {r : Reach} {v : Value} {d : DataW H} {p : List MemPlace} (hv : Value.okWide Tryd.prog W r b0 61 v)
    (h : DataW.Trod enc Tryd.prog W base spare held 61 v d p) : ∃ x : SCue, v = .agg #[.string x.Id, .int .i64 x.Time, .int .i64 x.Length, .string x.Target, .int .i64 x.Action, .int .i64 x.Value] ∧ WfCue x := by
  obtain ⟨cs, rfl, hsz⟩ := okWide_struct Tryd.underlying61 hv
  obtain ⟨fuel, hf⟩ := h
  obtain ⟨x, hx, hw⟩ := elem_Cue _ _ _ hf
  refine ⟨x, ?_, hw⟩
  have : cs.toList = cCue x := by simpa [Value.cells] using hx
  obtain ⟨l⟩ := cs
  simp only at this
  rw [this]
  rfl
end Go.Proofs.YtecakcgkibemaaaDoor
