/-
  Arguments of type Hold and []Hold opened.
-/
import Derived.Test.YtcoaldhmofdfgaaDoorOpen
import Derived.Test.YtcoaldhmofdfgaaDoorStHold
namespace Go.Proofs.YtcoaldhmofdfgaaDoor
open Go.ChangeShapes Go.WideShapes Go.ChangeAt Go.RowKit

theorem elem_Hold {H : Type} {enc : TypeId × Value → H} {W : World} {base : Nat} {spare : Nat → Bool} {held : Bool} (fuel : Nat) (cs : List Value) (y : DataW H × List MemPlace)
    (h : DataW.trod enc Tryd.prog W base spare held fuel 57 cs = some y) : ∃ x : SHold, cs = cHold x ∧ WfHold x := by
  obtain ⟨hl, n, hf⟩ := trod_fields Tryd.underlying57 (by kernel_rfl) h
  rw [show Tryd.prog.cellsOf 57 = 2 by kernel_rfl] at hl
  match cs, hl with
  | [c0, c1], _ =>
    obtain ⟨y0, t0⟩ := hf 0 _ c0 rfl rfl
    obtain ⟨s0, e0, _, _⟩ := DataW.trod_int Tryd.underlying2 t0
    simp only [List.cons.injEq, and_true] at e0
    obtain ⟨y1, t1⟩ := hf 1 _ c1 rfl rfl
    obtain ⟨s1, e1, _, _⟩ := DataW.trod_int Tryd.underlying2 t1
    simp only [List.cons.injEq, and_true] at e1
    exact ⟨⟨s0, s1⟩, by rw [e0, e1]; rfl, trivial⟩

def ArgHold (w : World) (A : Option Addr) (n _c : Nat) (L : List SHold) : Prop := n ≤ maxLen ∧ L.length = n ∧ Rd w A 2 cHold L ∧ ∀ x ∈ L, WfHold x
theorem slice_Hold {H : Type} {enc : TypeId × Value → H} {W : World} {base : Nat} {spare : Nat → Bool} {held : Bool} {a : Option Addr} {len cap : Nat} {d : DataW H} {p : List MemPlace}
    (h : DataW.Trod enc Tryd.prog W base spare held 22 (.slice a len cap) d p) : ∃ L, ArgHold W a len cap L := by
  obtain ⟨L, h1, h2, h3, h4⟩ := slice_elems (f := cHold) (wf := WfHold) Tryd.underlying22 (show Tryd.prog.cellsOf 57 = 2 by kernel_rfl) (by decide) elem_Hold h
  exact ⟨L, h1, h2, h3, h4⟩
end Go.Proofs.YtcoaldhmofdfgaaDoor
