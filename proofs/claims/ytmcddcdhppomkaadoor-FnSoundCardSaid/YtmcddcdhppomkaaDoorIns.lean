/-
  Words for a row into which one element is put. No function in sight.
-/
import Derived.Test.YtmcddcdhppomkaaDoorSlc
import Derived.Lib.Overlaps
import Derived.Lib.AppendZerosOnto
import Derived.Laws.Externs
import Derived.Lib.AppendZeros
import Derived.Deep.RegionLaw
namespace Go.Proofs.YtmcddcdhppomkaaDoor
open Go.RowKit

theorem run_copy_sz {P : Program} (w : World) (dT sT ty elem : TypeId) (i : TypeInfo) (b o dLen dCap : Nat) (a : Addr) (sLen sCap m : Nat) (cs : List Value)
    (hu : P.underlying dT = some (.slice elem)) (hi : P.info? elem = some i) (hm : Nat.min sLen dLen = m) (hl : cs.length = m * i.size)
    (hsrc : ∀ j v, cs[j]? = some v → w.cell? (a.add j) = some v) (hc : ∀ j, j < cs.length → (w.cell? ⟨b, o + j, none⟩).isSome = true) (hf : ∀ j, j < cs.length → w.frozen? ⟨b, o + j, none⟩ = false) (h1 : ∀ v ∈ cs, v.oneCell' = true) :
    (Builtin.copy_ #[dT, sT] ty #[.slice (some ⟨b, o, none⟩) dLen dCap, .slice (some a) sLen sCap]).run P w = .ok (goInt m) (w.setCells b o cs) := by
  have hst := run_storeCells_cells (P := P) b o cs 0 w (by simpa using hc) (by simpa using hf) h1
  have hfc := run_firstCells_some (P := P) (w := w) i.size m a sLen sCap cs hl hsrc
  simp only [Nat.add_zero] at hst
  subst hm
  simp [Builtin.copy_, run_underlying hu, Builtin.lenOf, sizeOf, typeInfo, hi, hfc, hst]

theorem wp_copy_run1 {P : Program} (w : World) {o : Oper} {a : Act} {K : Act → World → Prop} {Q : Exit → Act → World → Prop} (d s : Operand) (t t' : TypeId)
    (ho : o.op = .call { callee := .builtin .copy, args := #[d, s], argTypes := #[t, t'] }) (v u : Value) (hd : a.eval d = v) (hs : a.eval s = u) {v' : Value} {w' : World}
    (hr : (Builtin.copy_ #[t, t'] o.type #[v, u]).run P w = .ok v' w') (h : K (a.put o.dst v') w') : o.wp P a w K Q := by
  unfold Oper.wp execOp
  simp only [ho, resolve, invoke, builtin, Sem.run_bind, Sem.run_pure, Result.andThen_ok, List.map_toArray, List.map_cons, List.map_nil, hd, hs, hr]
  exact h
theorem wpList_copy_run1 {P : Program} (w : World) {ops : Array Oper} {rest : List Oper} {o : Oper} {a : Act} {Q : Exit → Act → World → Prop} (hgd : o.guard = none) (d s : Operand) (t t' : TypeId)
    (ho : o.op = .call { callee := .builtin .copy, args := #[d, s], argTypes := #[t, t'] }) (v u : Value) (hd : a.eval d = v) (hs : a.eval s = u) {v' : Value} {w' : World}
    (hr : (Builtin.copy_ #[t, t'] o.type #[v, u]).run P w = .ok v' w') (h : wpList P ops Q rest (a.put o.dst v') w') : wpList P ops Q (o :: rest) a w :=
  wpList_plain hgd fun _ hK => wp_copy_run1 w d s t t' ho v u hd hs hr (hK _ _ h)
theorem step_copy_run1 {P : Program} {ops : Array Oper} {o : Oper} {a : Act} {w : World} {K : Act → World → Prop} {Q : Exit → Act → World → Prop} {E : Prop}
    (hg : o.guard = none) (d x : Operand) (dT sT : TypeId) (hop : o.op = Op.call { callee := Callee.builtin Builtin.copy, args := #[d, x], argTypes := #[dT, sT] })
    (v u : Value) (hd : a.eval d = v) (hx : a.eval x = u) {v' : Value} {w' : World} (hr : (Builtin.copy_ #[dT, sT] o.type #[v, u]).run P w = .ok v' w') (hK : K (a.put o.dst v') w') :
    if Region.wanted o (yielded ops a.tmps) = true then Oper.wp P o a w K Q else E := by
  have hw : Region.wanted o (yielded ops a.tmps) = true := by simp [Region.wanted, hg]
  rw [if_pos hw]
  unfold Oper.wp
  simp [execOp, hop, resolve, invoke, builtin, hd, hx, hr, Result.andThen]
  exact hK
section
variable {w : World} {base : Nat} {e : TypeId} {size g n cap : Nat} {xs : List Value}
/-- A row with room, one element longer. -/
theorem own_more (h : w.ownsRow base e size (.slice (some ⟨g, 0, none⟩) n cap) n xs) (hr : n + 1 ≤ cap) : ∃ ys, w.ownsRow base e size (.slice (some ⟨g, 0, none⟩) (n + 1) cap) (n + 1) ys ∧ ys.take (n * size) = xs := by
  rcases h.2 with ⟨hv, hn⟩ | ⟨g', cap', cur, hv, hb, hh, h1, h2, h3, h4⟩
  · cases hv
  · simp only [Value.slice.injEq, Option.some.injEq, Addr.mk.injEq] at hv
    obtain ⟨⟨rfl, _, _⟩, _, rfl⟩ := hv
    have h5 : (n + 1) * size ≤ cap * size := Nat.mul_le_mul_right _ hr
    refine ⟨cur.toList.take ((n + 1) * size), ⟨by rw [List.length_take, Array.length_toList, h3]; omega, .inr ⟨g, cap, cur, rfl, hb, hh, hr, h2, h3, rfl⟩⟩, ?_⟩
    rw [List.take_take, Nat.min_eq_left (Nat.mul_le_mul_right _ (by omega)), h4]
theorem own_shape (h : w.ownsRow base e size (.slice (some ⟨g, 0, none⟩) n cap) n xs) : ∃ k, w.shape? g = some (e, k) ∧ k = cap * size := by
  rcases h.2 with ⟨hv, hn⟩ | ⟨g', cap', cur, hv, hb, hh, h1, h2, h3, h4⟩
  · cases hv
  · simp only [Value.slice.injEq, Option.some.injEq, Addr.mk.injEq] at hv
    obtain ⟨⟨rfl, _, _⟩, _, rfl⟩ := hv
    exact ⟨cur.size, by simp [World.shape?, hh], h3⟩
theorem own_new {w : World} {cur : Array Value} {n cap : Nat} (hb : base ≤ w.heap.size) (hn : n ≤ cap) (hm : cap ≤ maxLen) (hs : cur.size = cap * size) : (w.alloc (.cells cur e)).ownsRow base e size (.slice (some ⟨w.heap.size, 0, none⟩) n cap) n (cur.toList.take (n * size)) := by
  have h5 : n * size ≤ cap * size := Nat.mul_le_mul_right _ hn
  exact ⟨by rw [List.length_take, Array.length_toList, hs]; omega, .inr ⟨w.heap.size, cap, cur, rfl, hb, heap_alloc_new w _, hn, hm, hs, rfl⟩⟩
end
section
variable {α : Type} {f : α → List Value} {sz : Nat}
theorem ins_shift (hf : ∀ x, (f x).length = sz) (L : List α) (x : α) (i : Nat) (hi : i ≤ L.length) (ys : List Value) (hy : ys.length = (L.length + 1) * sz) (ht : ys.take (i * sz) = (L.take i).flatMap f) :
    (ys.take ((i + 1) * sz) ++ (L.drop i).flatMap f ++ ys.drop ((i + 1) * sz + ((L.drop i).flatMap f).length)).take (i * sz) ++ f x ++ (ys.take ((i + 1) * sz) ++ (L.drop i).flatMap f ++ ys.drop ((i + 1) * sz + ((L.drop i).flatMap f).length)).drop (i * sz + (f x).length) = (L.take i ++ x :: L.drop i).flatMap f := by
  have h1 : i * sz ≤ (i + 1) * sz := Nat.mul_le_mul_right _ (by omega)
  have h2 : (i + 1) * sz ≤ ys.length := by rw [hy]; exact Nat.mul_le_mul_right _ (by omega)
  have h3 : ((L.drop i).flatMap f).length = (L.length - i) * sz := by rw [flat_len hf, List.length_drop]
  have h4 : (i + 1) * sz + (L.length - i) * sz = ys.length := by rw [hy, ← Nat.add_mul]; congr 1; omega
  rw [h3, h4, List.drop_length, List.append_nil, hf, show i * sz + sz = (i + 1) * sz by rw [Nat.succ_mul]]
  rw [List.take_append_of_le_length (by rw [List.length_take]; omega), List.take_take, Nat.min_eq_left h1, ht]
  rw [List.drop_append, List.length_take, Nat.min_eq_left h2, Nat.sub_self, List.drop_zero, List.drop_of_length_le (by rw [List.length_take]; omega), List.nil_append]
  rw [List.flatMap_append, List.flatMap_cons, List.append_assoc]
theorem ins_grow (hf : ∀ x, (f x).length = sz) (L : List α) (x : α) (i : Nat) (hi : i ≤ L.length) (ys : List Value) (hy : ys.length = (L.length + 1) * sz) (ht : ys.take (i * sz) = (L.take i).flatMap f) :
    (ys.take (i * sz) ++ f x ++ ys.drop (i * sz + (f x).length)).take ((i + 1) * sz) ++ (L.drop i).flatMap f ++ (ys.take (i * sz) ++ f x ++ ys.drop (i * sz + (f x).length)).drop ((i + 1) * sz + ((L.drop i).flatMap f).length) = (L.take i ++ x :: L.drop i).flatMap f := by
  have h1 : i * sz ≤ (i + 1) * sz := Nat.mul_le_mul_right _ (by omega)
  have h2 : (i + 1) * sz ≤ ys.length := by rw [hy]; exact Nat.mul_le_mul_right _ (by omega)
  have h3 : ((L.drop i).flatMap f).length = (L.length - i) * sz := by rw [flat_len hf, List.length_drop]
  have h4 : (i + 1) * sz + (L.length - i) * sz = ys.length := by rw [hy, ← Nat.add_mul]; congr 1; omega
  have h5 : (ys.take (i * sz) ++ f x).length = (i + 1) * sz := by rw [List.length_append, List.length_take, hf, Nat.succ_mul]; omega
  have h6 : (ys.take (i * sz) ++ f x ++ ys.drop (i * sz + (f x).length)).length = ys.length := by rw [List.length_append, h5, List.length_drop, hf, show i * sz + sz = (i + 1) * sz by rw [Nat.succ_mul]]; omega
  have h7 : (ys.take (i * sz) ++ f x ++ ys.drop (i * sz + (f x).length)).drop ys.length = [] := List.drop_of_length_le (by rw [h6]; exact Nat.le_refl _)
  have h8 : (ys.take (i * sz) ++ f x ++ ys.drop (i * sz + (f x).length)).take ((i + 1) * sz) = ys.take (i * sz) ++ f x := by
    rw [List.take_append_of_le_length (by rw [h5]; exact Nat.le_refl _), List.take_of_length_le (by rw [h5]; exact Nat.le_refl _)]
  rw [h3, h4, h7, h8, List.append_nil, ht, List.flatMap_append, List.flatMap_cons, List.append_assoc]
end
end Go.Proofs.YtmcddcdhppomkaaDoor
