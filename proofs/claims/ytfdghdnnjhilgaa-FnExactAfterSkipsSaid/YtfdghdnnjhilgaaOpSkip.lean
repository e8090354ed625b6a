/-
  Arguments of type Skip and []Skip opened.
-/
import Derived.Test.YtfdghdnnjhilgaaOpen
import Derived.Test.YtfdghdnnjhilgaaStSkip
namespace Go.Proofs.Ytfdghdnnjhilgaa
open Go.ChangeShapes Go.WideShapes Go.ChangeAt Go.RowKit

theorem elem_Skip {H : Type} {enc : TypeId × Value → H} {W : World} {base : Nat} {spare : Nat → Bool} {held : Bool} (fuel : Nat) (cs : List Value) (y : DataW H × List MemPlace)
    (h : DataW.trod enc Try.prog W base spare held fuel 79 cs = some y) : ∃ x : SSkip, cs = cSkip x ∧ WfSkip x := by
  obtain ⟨hl, n, hf⟩ := trod_fields Try.underlying79 (by kernel_rfl) h
  rw [show Try.prog.cellsOf 79 = 3 by kernel_rfl] at hl
  match cs, hl with
  | [c0, c1, c2], _ =>
    obtain ⟨y0, t0⟩ := hf 0 _ c0 rfl rfl
    obtain ⟨s0, e0, _, _⟩ := DataW.trod_int Try.underlying2 t0
    simp only [List.cons.injEq, and_true] at e0
    obtain ⟨y1, t1⟩ := hf 1 _ c1 rfl rfl
    obtain ⟨s1, e1, _, _⟩ := DataW.trod_int Try.underlying2 t1
    simp only [List.cons.injEq, and_true] at e1
    obtain ⟨y2, t2⟩ := hf 2 _ c2 rfl rfl
    obtain ⟨s2, e2, _, _⟩ := DataW.trod_int Try.underlying2 t2
    simp only [List.cons.injEq, and_true] at e2
    exact ⟨⟨s0, s1, s2⟩, by rw [e0, e1, e2]; rfl, trivial⟩

def ArgSkip (w : World) (A : Option Addr) (n _c : Nat) (L : List SSkip) : Prop := n ≤ maxLen ∧ L.length = n ∧ Rd w A 3 cSkip L ∧ ∀ x ∈ L, WfSkip x
theorem slice_Skip {H : Type} {enc : TypeId × Value → H} {W : World} {base : Nat} {spare : Nat → Bool} {held : Bool} {a : Option Addr} {len cap : Nat} {d : DataW H} {p : List MemPlace}
    (h : DataW.Trod enc Try.prog W base spare held 29 (.slice a len cap) d p) : ∃ L, ArgSkip W a len cap L := by
  obtain ⟨L, h1, h2, h3, h4⟩ := slice_elems (f := cSkip) (wf := WfSkip) Try.underlying29 (show Try.prog.cellsOf 79 = 3 by kernel_rfl) (by decide) elem_Skip h
  exact ⟨L, h1, h2, h3, h4⟩
end Go.Proofs.Ytfdghdnnjhilgaa
