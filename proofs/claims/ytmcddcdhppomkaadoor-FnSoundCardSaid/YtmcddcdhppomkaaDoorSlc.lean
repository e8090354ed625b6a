/-
  Words for slices of structs that are cloned, cut, moved. No function in sight.
-/
import Derived.Test.YtmcddcdhppomkaaDoorRes
import Derived.Laws.IdiomCopy
import Derived.Deep.RegionLaw
import Derived.Lib.Hide
namespace Go.Proofs.YtmcddcdhppomkaaDoor
open Go.RowKit

section
variable {α : Type} {f : α → List Value} {sz : Nat}
theorem flat_len (hf : ∀ x, (f x).length = sz) (L : List α) : (L.flatMap f).length = L.length * sz := by
  induction L with
  | nil => simp
  | cons y L ih => rw [List.flatMap_cons, List.length_append, ih, hf, List.length_cons, Nat.succ_mul]; omega
theorem flat_take (hf : ∀ x, (f x).length = sz) (L : List α) (i : Nat) : (L.flatMap f).take (i * sz) = (L.take i).flatMap f := by
  induction L generalizing i with
  | nil => simp
  | cons y L ih =>
    cases i with
    | zero => simp
    | succ i =>
      rw [List.flatMap_cons, List.take_succ_cons, List.flatMap_cons, ← ih i, List.take_append, hf, List.take_of_length_le (by rw [hf, Nat.succ_mul]; omega), show (i + 1) * sz - sz = i * sz by rw [Nat.succ_mul]; omega]
theorem flat_drop (hf : ∀ x, (f x).length = sz) (L : List α) (i : Nat) : (L.flatMap f).drop (i * sz) = (L.drop i).flatMap f := by
  induction L generalizing i with
  | nil => simp
  | cons y L ih =>
    cases i with
    | zero => simp
    | succ i =>
      rw [List.flatMap_cons, List.drop_succ_cons, ← ih i, List.drop_append, hf, List.drop_of_length_le (by rw [hf, Nat.succ_mul]; omega), List.nil_append, show (i + 1) * sz - sz = i * sz by rw [Nat.succ_mul]; omega]
theorem flat_at (hf : ∀ x, (f x).length = sz) (L : List α) (j : Nat) (u : Value) (h : (L.flatMap f)[j]? = some u) : ∃ i x r, L[i]? = some x ∧ (f x)[r]? = some u ∧ j = i * sz + r := by
  induction L generalizing j with
  | nil => simp at h
  | cons y L ih =>
    rw [List.flatMap_cons] at h
    by_cases hj : j < sz
    · rw [List.getElem?_append_left (by rw [hf]; exact hj)] at h
      exact ⟨0, y, j, rfl, h, by simp⟩
    · rw [List.getElem?_append_right (by rw [hf]; omega), hf] at h
      obtain ⟨i, x, r, hx, hr, e⟩ := ih _ h
      exact ⟨i + 1, x, r, by simpa using hx, hr, by rw [Nat.succ_mul]; omega⟩
/-- The cells of a slice that reads as a list, one behind the other. -/
theorem rd_news {w : World} {a : Addr} {L : List α} (hf : ∀ x, (f x).length = sz) (h : Rd w (some a) sz f L) : ∀ j u, (L.flatMap f)[j]? = some u → w.cell? (a.add j) = some u := by
  intro j u hj
  obtain ⟨i, x, r, hx, hr, rfl⟩ := flat_at hf L j u hj
  obtain ⟨b, o, ha, hc⟩ := h (by rintro rfl; simp at hx)
  simp only [Option.some.injEq] at ha
  subst ha
  rw [Addr.add_lit]
  exact hc i x r u hx hr
theorem flat_one (hone : ∀ x, ∀ u ∈ f x, u.oneCell' = true) (L : List α) : ∀ u ∈ L.flatMap f, u.oneCell' = true := by
  intro u hu
  obtain ⟨x, _, hx⟩ := List.mem_flatMap.1 hu
  exact hone x u hx
end
theorem own_cut {w : World} {base : Nat} {e : TypeId} {size g n m cap : Nat} {xs : List Value} (h : w.ownsRow base e size (.slice (some ⟨g, 0, none⟩) n cap) n xs) (hm : m ≤ n) : w.ownsRow base e size (.slice (some ⟨g, 0, none⟩) m cap) m (xs.take (m * size)) := by
  have hl := h.1
  have hms : m * size ≤ n * size := Nat.mul_le_mul_right _ hm
  refine ⟨by rw [List.length_take, hl]; omega, ?_⟩
  rcases h.2 with ⟨hv, _⟩ | ⟨g', cap', cur, hv, hb, hh, h1, h2, h3, h4⟩
  · cases hv
  · simp only [Value.slice.injEq, Option.some.injEq, Addr.mk.injEq] at hv
    obtain ⟨⟨rfl, _, _⟩, _, rfl⟩ := hv
    exact .inr ⟨g, cap, cur, rfl, hb, hh, by omega, h2, h3, by rw [← h4, List.take_take, Nat.min_eq_left hms]⟩
theorem own_cap {w : World} {base : Nat} {e : TypeId} {size n cap : Nat} {A : Option Addr} {xs : List Value} (h : w.ownsRow base e size (.slice A n cap) n xs) : n ≤ cap ∧ cap ≤ maxLen := by
  rcases h.2 with ⟨hv, hn⟩ | ⟨g', cap', cur, hv, hb, hh, h1, h2, h3, h4⟩
  · simp only [Value.slice.injEq] at hv; unfold maxLen; omega
  · simp only [Value.slice.injEq] at hv
    obtain ⟨_, _, rfl⟩ := hv
    exact ⟨h1, h2⟩
/-- Every cell of a row, up to its capacity, is there and may be written. -/
theorem own_room {w : World} {base : Nat} {e : TypeId} {size g n cap : Nat} {xs : List Value} (h : w.ownsRow base e size (.slice (some ⟨g, 0, none⟩) n cap) n xs) {j : Nat} (hj : j < cap * size) : (w.cell? ⟨g, j, none⟩).isSome = true ∧ w.frozen? ⟨g, j, none⟩ = false := by
  refine ⟨?_, h.frozenAt _⟩
  rcases h.2 with ⟨hv, hn⟩ | ⟨g', cap', cur, hv, hb, hh, h1, h2, h3, h4⟩
  · cases hv
  · simp only [Value.slice.injEq, Option.some.injEq, Addr.mk.injEq] at hv
    obtain ⟨⟨rfl, _, _⟩, _, rfl⟩ := hv
    simp only [World.cell?, hh]
    simp [h3, hj]
theorem one_agg {z : Array Value} (hz : ∀ u ∈ z.toList, u.oneCell' = true) (n : Nat) : ∀ u ∈ (Builtin.zeroCells z n).toList, u.oneCell' = true := by
  intro u hu
  simp only [Builtin.zeroCells, Array.toList_map, List.mem_map, Array.toList_range, List.mem_range] at hu
  obtain ⟨i, hi, rfl⟩ := hu
  have hpos : 0 < z.size := by rcases Nat.eq_zero_or_pos z.size with h | h; (rw [h] at hi; simp at hi); exact h
  have hlt := Nat.mod_lt i hpos
  rw [getElem!_pos z _ hlt]
  exact hz _ (by simp)
theorem run_clear_cells {P : Program} (w : World) (t e ty : TypeId) (z : Value) (ht : P.underlying t = some (.slice e)) (hv : ∀ w, (zeroValue e).run P w = .ok z w) (h1 : ∀ u ∈ z.cells.toList, u.oneCell' = true) (b o n c : Nat) (hn : 0 < n)
    (hc : ∀ j, j < n * z.cells.size → (w.cell? ⟨b, o + j, none⟩).isSome = true) (hf : ∀ j, j < n * z.cells.size → w.frozen? ⟨b, o + j, none⟩ = false) :
    (Builtin.clear_ #[t] ty #[.slice (some ⟨b, o, none⟩) n c]).run P w = .ok (.tuple #[]) (w.setCells b o (Builtin.zeroCells z.cells n).toList) := by
  have hl : (Builtin.zeroCells z.cells n).toList.length = n * z.cells.size := by simp [Builtin.zeroCells]
  have hst := run_storeCells_cells (P := P) b o (Builtin.zeroCells z.cells n).toList 0 w (by rw [hl]; simpa using hc) (by rw [hl]; simpa using hf) (one_agg h1 n)
  simp only [Nat.add_zero] at hst
  obtain ⟨m, rfl⟩ : ∃ m, n = m + 1 := ⟨n - 1, by omega⟩
  simp [Builtin.clear_, run_underlying ht, hv, hst]
theorem drew_setCells' (b : Nat) : ∀ (vs : List Value) (o : Nat) (w : World), (w.setCells b o vs).drew = w.drew.setCells b o vs
  | [], _, _ => rfl
  | v :: r, o, w => by rw [World.setCells, World.setCells, drew_setCells' b r]; rfl
theorem own_drew {w : World} {base : Nat} {e : TypeId} {size n : Nat} {v : Value} {xs : List Value} (h : w.ownsRow base e size v n xs) : w.drew.ownsRow base e size v n xs := h
/-- A result: a slice of the call's own with the elements M. -/
def Lst {α : Type} (w : World) (T sz : Nat) (f : α → List Value) (M : List α) (e : Ending) (w' : World) : Prop :=
  ∃ v, e = .returned v ∧ w'.ownsRow w.heap.size T sz v M.length (M.flatMap f) ∧ G w w'
theorem erase_cells {α : Type} {f : α → List Value} {sz : Nat} (hf : ∀ x, (f x).length = sz) (L : List α) (i : Nat) (hi : i < L.length) (zs : List Value) :
    ((((L.flatMap f).take (i * sz) ++ (L.drop (i + 1)).flatMap f ++ (L.flatMap f).drop (i * sz + ((L.drop (i + 1)).flatMap f).length)).take ((L.length - 1) * sz) ++ zs ++ (((L.flatMap f).take (i * sz) ++ (L.drop (i + 1)).flatMap f ++ (L.flatMap f).drop (i * sz + ((L.drop (i + 1)).flatMap f).length))).drop ((L.length - 1) * sz + zs.length))).take ((L.length - 1) * sz) = (L.eraseIdx i).flatMap f := by
  have h1 : ((L.flatMap f).take (i * sz) ++ (L.drop (i + 1)).flatMap f).length = (L.length - 1) * sz := by
    rw [flat_take hf, ← List.flatMap_append, flat_len hf]
    congr 1
    simp; omega
  rw [List.append_assoc, List.take_append_of_le_length (by rw [List.length_take, List.length_append, h1]; omega), List.take_take, Nat.min_self, List.take_append_of_le_length (by omega), List.take_of_length_le (by omega), flat_take hf, ← List.flatMap_append, List.eraseIdx_eq_take_drop_succ]
end Go.Proofs.YtmcddcdhppomkaaDoor
