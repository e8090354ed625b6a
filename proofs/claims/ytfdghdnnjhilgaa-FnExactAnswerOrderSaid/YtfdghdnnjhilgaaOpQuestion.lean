/-
  Arguments of type Question and []Question opened.
-/
import Derived.Test.YtfdghdnnjhilgaaOpen
import Derived.Test.YtfdghdnnjhilgaaStQuestion
namespace Go.Proofs.Ytfdghdnnjhilgaa
open Go.ChangeShapes Go.WideShapes Go.ChangeAt Go.RowKit

theorem elem_Question {H : Type} {enc : TypeId × Value → H} {W : World} {base : Nat} {spare : Nat → Bool} {held : Bool} (fuel : Nat) (cs : List Value) (y : DataW H × List MemPlace)
    (h : DataW.trod enc Try.prog W base spare held fuel 85 cs = some y) : ∃ x : SQuestion, cs = cQuestion x ∧ WfQuestion x := by
  obtain ⟨hl, n, hf⟩ := trod_fields Try.underlying85 (by kernel_rfl) h
  rw [show Try.prog.cellsOf 85 = 4 by kernel_rfl] at hl
  match cs, hl with
  | [c0, c1, c2, c3], _ =>
    obtain ⟨y0, t0⟩ := hf 0 _ c0 rfl rfl
    obtain ⟨s0, e0, _, b0⟩ := DataW.trod_string Try.underlying9 t0
    simp only [List.cons.injEq, and_true] at e0
    obtain ⟨y1, t1⟩ := hf 1 _ c1 rfl rfl
    obtain ⟨s1, e1, _, _⟩ := DataW.trod_int Try.underlying2 t1
    simp only [List.cons.injEq, and_true] at e1
    obtain ⟨y2, t2⟩ := hf 2 _ c2 rfl rfl
    obtain ⟨s2, e2, _, _⟩ := DataW.trod_int Try.underlying2 t2
    simp only [List.cons.injEq, and_true] at e2
    obtain ⟨y3, t3⟩ := hf 3 _ c3 rfl rfl
    obtain ⟨s3, e3, _, _⟩ := DataW.trod_int Try.underlying2 t3
    simp only [List.cons.injEq, and_true] at e3
    exact ⟨⟨s0, s1, s2, s3⟩, by rw [e0, e1, e2, e3]; rfl, b0⟩

def ArgQuestion (w : World) (A : Option Addr) (n _c : Nat) (L : List SQuestion) : Prop := n ≤ maxLen ∧ L.length = n ∧ Rd w A 4 cQuestion L ∧ ∀ x ∈ L, WfQuestion x
theorem slice_Question {H : Type} {enc : TypeId × Value → H} {W : World} {base : Nat} {spare : Nat → Bool} {held : Bool} {a : Option Addr} {len cap : Nat} {d : DataW H} {p : List MemPlace}
    (h : DataW.Trod enc Try.prog W base spare held 39 (.slice a len cap) d p) : ∃ L, ArgQuestion W a len cap L := by
  obtain ⟨L, h1, h2, h3, h4⟩ := slice_elems (f := cQuestion) (wf := WfQuestion) Try.underlying39 (show Try.prog.cellsOf 85 = 4 by kernel_rfl) (by decide) elem_Question h
  exact ⟨L, h1, h2, h3, h4⟩
end Go.Proofs.Ytfdghdnnjhilgaa
