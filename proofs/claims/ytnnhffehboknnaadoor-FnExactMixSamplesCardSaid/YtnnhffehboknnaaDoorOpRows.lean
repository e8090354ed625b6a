/-
  Arguments of type [][]int64 opened.
-/
import Derived.Test.YtnnhffehboknnaaDoorOpen
import Derived.Test.YtnnhffehboknnaaDoorRowMem
import Derived.Deep.Matrix
namespace Go.Proofs.YtnnhffehboknnaaDoor
open Go.ChangeShapes Go.WideShapes Go.ChangeAt Go.RowKit

theorem arg_SSint64 {H : Type} {enc : TypeId × Value → H} {W : World} {base b0 : Nat} {held : Bool} {r : Reach} {v : Value} {d : DataW H} {p : List MemPlace} (hv : Value.okWide Tryd.prog W r b0 33 v)
    (h : DataW.Trod enc Tryd.prog W base (fun _ => true) held 33 v d p) : ∃ z : SRows, ArgSS W v z := by
  obtain ⟨a, len, cap, rfl⟩ := okWide_slice Tryd.underlying33 hv
  obtain ⟨fuel, hf⟩ := h
  rcases Deep.open_int_rows Tryd.underlying33 Tryd.underlying36 Tryd.underlying2 (by kernel_rfl) (by kernel_rfl) hf with ⟨hcs, _⟩ | ⟨ad, l, c, A, L, C, Z, hcs, _, hl, hm, _, hr⟩
  · simp [Value.cells] at hcs
    obtain ⟨rfl, rfl, rfl⟩ := hcs
    exact ⟨⟨none, 0, 0, []⟩, rfl, by simp [maxLen], rfl, fun hn => absurd rfl hn, fun r hr => by simp at hr⟩
  · simp [Value.cells] at hcs
    obtain ⟨rfl, rfl, rfl⟩ := hcs
    have hrow : ∀ i, i < len → L i ≤ maxLen ∧ ((Z i).take (L i)).length = L i ∧ Rd W (A i) 1 iv ((Z i).take (L i)) := fun i hi => by
      obtain ⟨h1, h2, h3, h4, h5, h6, h7⟩ := hr i (by omega)
      refine rd_of_isRow (cap := C i) ?_
      cases ha : A i with
      | none =>
        have hc0 := h6 ha
        rw [hc0] at h2 h4 ⊢
        exact .inl ⟨rfl, by omega, rfl, List.length_eq_zero_iff.1 h4⟩
      | some x =>
        refine .inr ⟨x, rfl, h2, h3, h4, fun k hk => ?_, h5⟩
        exact (h7 x ha).2 k (by rw [← h4]; exact hk)
    refine ⟨⟨some ad, len, cap, (List.range len).map fun i => (Z i).take (L i)⟩, rfl, by simp only; omega, by simp, fun hn => ?_, fun s hs => ?_⟩
    · obtain ⟨b, o, spot⟩ := ad
      have hpos : 0 < len := by
        rcases Nat.eq_zero_or_pos len with h0 | h0
        · subst h0; simp at hn
        · exact h0
      have hspot : spot = none := by simpa [Addr.add] using World.cell?_spot (hr 0 (by omega)).1
      subst hspot
      refine ⟨b, o, rfl, fun i s hi => ?_⟩
      have hil : i < len := by simpa using (List.getElem?_eq_some_iff.1 hi).1
      simp only [List.getElem?_map, List.getElem?_range hil, Option.map_some, Option.some.injEq] at hi
      subst hi
      obtain ⟨h1, h2, h3⟩ := hrow i hil
      obtain ⟨g1, g2, _⟩ := hr i (by omega)
      rw [Addr.add_mid] at g1
      exact ⟨A i, C i, by rw [h2]; exact g2, by rw [h2]; exact g1, h3⟩
    · simp only [List.mem_map, List.mem_range] at hs
      obtain ⟨i, hi, rfl⟩ := hs
      obtain ⟨h1, h2, _⟩ := hrow i hi
      rw [h2]; exact h1
end Go.Proofs.YtnnhffehboknnaaDoor
