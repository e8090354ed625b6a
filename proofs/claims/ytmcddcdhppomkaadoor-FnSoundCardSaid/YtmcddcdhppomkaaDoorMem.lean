/-
  Words for memory: what a call leaves alone, slices that read as lists, rows of the call's own. No function in sight.
-/
import Derived.Test.YtmcddcdhppomkaaDoorMath
import Derived.WalkKit
import Derived.Deep.OwnRows
import Derived.Deep.MidRow
import Derived.Laws.OwnMore
import Derived.Lib.QuietBelow
import Derived.BigQuiet
namespace Go.Proofs.YtmcddcdhppomkaaDoor
open Go.RowKit

/-- A slice of integers that came in: it is nil; or it leads to a row of 'cap' cells, the numbers zs, each fitting its kind. -/
def IsRow (k : IntKind) (w : World) (a : Option Addr) (len cap : Nat) (zs : List Int) : Prop :=
  (a = none ∧ len = 0 ∧ cap = 0 ∧ zs = []) ∨
  ∃ x, a = some x ∧ len ≤ cap ∧ cap ≤ maxLen ∧ zs.length = cap ∧ (∀ i, i < zs.length → w.cell? (x.add i) = some (.int k (zs.getD i 0))) ∧ ∀ n ∈ zs, (Lit.int k n).wf = true

/-! What a call leaves alone: all that was there. -/
def G (w w' : World) : Prop := Below w.heap.size w w'
theorem G.refl (w : World) : G w w := Below.refl _ _
theorem G.size {a b : World} (h : G a b) : a.heap.size ≤ b.heap.size := Below.size h
theorem G.trans {a b c : World} (h : G a b) (k : G b c) : G a c := Below.trans h (Below.mono k h.size)
theorem G.drewN {a b : World} (h : G a b) (n : Nat) : G a (b.drewN n) := ⟨h.os, h.tape, h.output, h.size, h.block⟩
theorem G.drew {a b : World} (h : G a b) : G a b.drew := Below.drew h
theorem G.alloc {a b : World} (h : G a b) (o : Obj) : G a (b.alloc o) := Below.alloc h h.size o
theorem G.setCell {a b : World} (h : G a b) {p : Addr} (hp : a.heap.size ≤ p.block) (u : Value) : G a (b.setCell p u) := Below.setCell h hp u
theorem G.grown {a b c : World} {row : Option Nat} (h : G a b) (hg : b.grownBy c row) (hr : ∀ k, row = some k → a.heap.size ≤ k) : G a c := Below.grown h hg h.size hr
theorem G.cell {w w' : World} (h : G w w') {p : Addr} {v : Value} (hc : w.cell? p = some v) : w'.cell? p = some v := by
  rw [Below.cell h (block_lt_of_cell hc)]; exact hc
theorem G.of_below {B : Nat} {w w' : World} (h : Below B w w') (hB : w.heap.size ≤ B) : G w w' := Below.mono h hB
theorem G.frozen {w w' : World} (h : G w w') {p : Addr} (hp : p.block < w.heap.size) : w'.frozen? p = w.frozen? p := Below.frozen h hp
theorem G.heap {w w' : World} (h : G w w') {k : Nat} (hk : k < w.heap.size) : w'.heap[k]? = w.heap[k]? := Below.block h k hk
theorem G.regrown (w : World) (d : Nat) (os : Array Obj) : G w (Sort.grow (redrawn w d) os) := below_regrown w d os

/-- At most block g has turned, and what is new. -/
def Gx (g : Option Nat) (w w' : World) : Prop := w.grownBy w' g
theorem Gx.of_G {w w' : World} (h : G w w') (g : Option Nat) : Gx g w w' := ⟨h.os, h.tape, h.output, h.size, fun k hk _ => Below.block h k hk⟩
theorem Gx.trans {g : Option Nat} {a b c : World} (h : Gx g a b) (k : Gx g b c) : Gx g a c :=
  ⟨k.os.trans h.os, k.tape.trans h.tape, k.output.trans h.output, Nat.le_trans h.size k.size, fun i hi hn => (k.block i (Nat.lt_of_lt_of_le hi h.size) hn).trans (h.block i hi hn)⟩
theorem Gx.G {g : Option Nat} {a b c : World} (h : G a b) (k : Gx g b c) (hr : ∀ i, g = some i → a.heap.size ≤ i) : G a c := G.grown h k hr
theorem Gx.cell {g : Option Nat} {w w' : World} (h : Gx g w w') {p : Addr} {v : Value} (hc : w.cell? p = some v) (hne : some p.block ≠ g) : w'.cell? p = some v := World.grownBy.cell h hc hne

/-! A slice that reads as a list L, the cells of an element x being f x, sz of them. -/
section
variable {α : Type}
def Rd (w : World) (A : Option Addr) (sz : Nat) (f : α → List Value) (L : List α) : Prop :=
  L ≠ [] → ∃ b o, A = some ⟨b, o, none⟩ ∧ ∀ i x j u, L[i]? = some x → (f x)[j]? = some u → w.cell? ⟨b, o + (i * sz + j), none⟩ = some u
variable {w w' : World} {A : Option Addr} {sz : Nat} {f : α → List Value} {L : List α}
theorem Rd.nil (w : World) (A : Option Addr) (sz : Nat) (f : α → List Value) : Rd w A sz f [] := fun h => absurd rfl h
theorem Rd.keep (h : Rd w A sz f L) (hk : ∀ p v, w.cell? p = some v → (∀ a, A = some a → p.block = a.block) → w'.cell? p = some v) : Rd w' A sz f L := fun hn => by
  obtain ⟨b, o, rfl, hc⟩ := h hn
  exact ⟨b, o, rfl, fun i x j u hi hj => hk _ _ (hc i x j u hi hj) (fun a ha => by cases ha; rfl)⟩
theorem Rd.G (h : Rd w A sz f L) (hg : G w w') : Rd w' A sz f L := h.keep fun _ _ hc _ => hg.cell hc
theorem Rd.drewN (h : Rd w A sz f L) (n : Nat) : Rd (w.drewN n) A sz f L := h
theorem Rd.Gx {g : Option Nat} (h : Rd w A sz f L) (hg : Gx g w w') (hne : ∀ a, A = some a → some a.block ≠ g) : Rd w' A sz f L := fun hn => by
  obtain ⟨b, o, rfl, hc⟩ := h hn
  exact ⟨b, o, rfl, fun i x j u hi hj => Gx.cell hg (hc i x j u hi hj) (hne ⟨b, o, none⟩ rfl)⟩
/-- The head and the cells, at an index. -/
theorem Rd.at_ (h : Rd w A sz f L) {k : Nat} (hk : k < L.length) : ∃ b o x, A = some ⟨b, o, none⟩ ∧ L[k]? = some x ∧ ∀ j u, (f x)[j]? = some u → w.cell? ⟨b, o + (k * sz + j), none⟩ = some u := by
  obtain ⟨b, o, e, hc⟩ := h (by rintro rfl; simp at hk)
  exact ⟨b, o, L[k], e, List.getElem?_eq_getElem hk, fun j u hu => hc k _ j u (List.getElem?_eq_getElem hk) hu⟩
end

/-- Integers: one cell each. -/
def iv (n : Int) : List Value := [.int .i64 n]
theorem Rd.int {w : World} {A : Option Addr} {L : List Int} (h : Rd w A 1 iv L) {k : Nat} (hk : k < L.length) :
    ∃ b o x, A = some ⟨b, o, none⟩ ∧ L[k]? = some x ∧ w.cell? ⟨b, o + k, none⟩ = some (.int .i64 x) := by
  obtain ⟨b, o, x, e, hx, hc⟩ := h.at_ hk
  exact ⟨b, o, x, e, hx, by simpa using hc 0 (.int .i64 x) rfl⟩
theorem rd_of_isRow {w : World} {a : Option Addr} {len cap : Nat} {zs : List Int} (h : IsRow .i64 w a len cap zs) : len ≤ maxLen ∧ (zs.take len).length = len ∧ Rd w a 1 iv (zs.take len) := by
  rcases h with ⟨rfl, rfl, rfl, rfl⟩ | ⟨x, rfl, hl, hm, hz, hc, _⟩
  · exact ⟨by simp [maxLen], rfl, Rd.nil _ _ _ _⟩
  · refine ⟨by omega, by simp [hz]; omega, fun hn => ?_⟩
    obtain ⟨b, o, spot⟩ := x
    have hpos : 0 < zs.length := by
      cases zs with
      | nil => simp at hn
      | cons => simp
    have h0 := hc 0 hpos
    have hspot : spot = none := by simpa [Addr.add] using World.cell?_spot h0
    subst hspot
    refine ⟨b, o, rfl, fun i y j u hi hj => ?_⟩
    have hil := (List.getElem?_eq_some_iff.1 hi).1
    simp only [List.length_take] at hil
    have := hc i (by omega)
    rw [Addr.add_mid] at this
    match j, hj with
    | 0, hj =>
      simp only [iv, List.getElem?_cons_zero, Option.some.injEq] at hj
      subst hj
      rw [List.getElem?_take, if_pos (by omega)] at hi
      simp only [Nat.mul_one, Nat.add_zero]
      rw [this, List.getD_eq_getElem?_getD, hi]
      rfl
    | j + 1, hj => simp [iv] at hj

/-! Lists, one element further. -/
section
variable {α : Type} {L : List α} {k : Nat} {x : α}
theorem take_snoc (h : L[k]? = some x) : L.take (k + 1) = L.take k ++ [x] := by
  obtain ⟨hk, rfl⟩ := List.getElem?_eq_some_iff.1 h
  rw [List.take_succ_eq_append_getElem hk]
theorem all_snoc {p : α → Bool} (h : L[k]? = some x) (ha : (L.take k).all p = true) (hx : p x = true) : (L.take (k + 1)).all p = true := by
  rw [take_snoc h, List.all_append, ha]; simp [hx]
theorem all_false {p : α → Bool} (h : L[k]? = some x) (hx : p x = false) : L.all p = false := by
  rw [List.all_eq_false]
  exact ⟨x, List.mem_of_getElem? h, by simp [hx]⟩
theorem all_take_all {p : α → Bool} (hk : L.length ≤ k) (ha : (L.take k).all p = true) : L.all p = true := by rwa [List.take_of_length_le hk] at ha
theorem all_at {p : α → Bool} (ha : L.all p = true) (h : L[k]? = some x) : p x = true := List.all_eq_true.1 ha x (List.mem_of_getElem? h)
end

/-! Rows of the call's own. -/
section
variable {w : World} {base : Nat} {e : TypeId} {size g n cap : Nat} {xs : List Value}
theorem own_cellAt_mid (h : w.ownsRow base e size (.slice (some ⟨g, 0, none⟩) n cap) n xs) {j : Nat} {u : Value} (hu : xs[j]? = some u) : w.cell? ⟨g, j, none⟩ = some u := by
  have hj : j < xs.length := (List.getElem?_eq_some_iff.1 hu).1
  rw [h.cellAt j (by rw [← h.1]; exact hj), hu]
theorem own_there (h : w.ownsRow base e size (.slice (some ⟨g, 0, none⟩) n cap) n xs) {o m : Nat} (hm : o + m ≤ n * size) : w.there g o m := fun j hj => by
  refine ⟨?_, h.frozenAt _⟩
  have hl : o + j < xs.length := by rw [h.1]; omega
  rw [own_cellAt_mid h (List.getElem?_eq_getElem hl)]
  rfl
theorem own_setCells : ∀ (vs : List Value) (o : Nat) {w : World} {xs : List Value}, w.ownsRow base e size (.slice (some ⟨g, 0, none⟩) n cap) n xs → o + vs.length ≤ n * size →
    (w.setCells g o vs).ownsRow base e size (.slice (some ⟨g, 0, none⟩) n cap) n (xs.take o ++ vs ++ xs.drop (o + vs.length)) ∧ w.grownBy (w.setCells g o vs) (some g)
  | [], o, w, xs, h, _ => ⟨by simpa [World.setCells] using h, World.grownBy.refl _ _⟩
  | v :: r, o, w, xs, h, ho => by
    have hl := h.1
    obtain ⟨h1, h2⟩ := h.stored o v
    obtain ⟨h3, h4⟩ := own_setCells r (o + 1) h1 (by simp at ho; omega)
    refine ⟨?_, Gx.trans (g := some g) h2 h4⟩
    have e1 : (xs.set o v).take (o + 1) = xs.take o ++ [v] := by
      rw [List.take_set, List.take_succ_eq_append_getElem (by simp at ho; omega), List.set_append_right _ _ (by simp; omega)]
      simp [show o - min o xs.length = 0 by simp at ho; omega]
    have e2 : (xs.set o v).drop (o + 1 + r.length) = xs.drop (o + (v :: r).length) := by
      rw [List.drop_set_of_lt (by omega)]
      congr 1
      simp; omega
    rw [e1, e2] at h3
    simpa [World.setCells] using h3
end
theorem own_frozen_of {w : World} {base : Nat} {e : TypeId} {size g n cap : Nat} {xs : List Value} (h : w.ownsRow base e size (.slice (some ⟨g, 0, none⟩) n cap) n xs) (j : Nat) : w.frozen? ⟨g, j, none⟩ = false := h.frozenAt j

/-- A row of the call's own reads as the list whose cells it holds. -/
theorem rd_own {α : Type} {w : World} {base : Nat} {e : TypeId} {sz n : Nat} {A : Option Addr} {c : Nat} {f : α → List Value} {L : List α} (hsz : 0 < sz) (hf : ∀ x, (f x).length = sz)
    (h : w.ownsRow base e sz (.slice A n c) n (L.flatMap f)) : Rd w A sz f L := fun hn => by
  have flat : ∀ (L : List α) (i : Nat) (x : α) (j : Nat) (u : Value), L[i]? = some x → (f x)[j]? = some u → (L.flatMap f)[i * sz + j]? = some u := by
    intro L
    induction L with
    | nil => intro i x j u hi _; simp at hi
    | cons y L ih =>
      intro i x j u hi hj
      cases i with
      | zero =>
        simp only [List.getElem?_cons_zero, Option.some.injEq] at hi
        subst hi
        have hj' := (List.getElem?_eq_some_iff.1 hj).1
        simp only [List.flatMap_cons, Nat.zero_mul, Nat.zero_add]
        rw [List.getElem?_append_left hj']
        exact hj
      | succ i =>
        simp only [List.getElem?_cons_succ] at hi
        simp only [List.flatMap_cons]
        rw [List.getElem?_append_right (by rw [hf, Nat.succ_mul]; omega), hf, show (i + 1) * sz + j - sz = i * sz + j by rw [Nat.succ_mul]; omega]
        exact ih i x j u hi hj
  rcases h.2 with ⟨hv, hn0⟩ | ⟨g, cap, cur, hv, _⟩
  · have hl := h.1
    subst hn0
    have : L = [] := by
      cases L with
      | nil => rfl
      | cons y L =>
        exfalso
        rw [Nat.zero_mul] at hl
        have hy := hf y
        simp only [List.flatMap_cons, List.length_append] at hl
        omega
    exact absurd this hn
  · simp only [Value.slice.injEq] at hv
    obtain ⟨rfl, _, rfl⟩ := hv
    exact ⟨g, 0, rfl, fun i x j u hi hj => by rw [Nat.zero_add]; exact own_cellAt_mid h (flat L i x j u hi hj)⟩
theorem rd_ints {w : World} {base : Nat} {e : TypeId} {n : Nat} {A : Option Addr} {c : Nat} {L : List Int} (h : w.ownsRow base e 1 (.slice A n c) n (L.flatMap iv)) : Rd w A 1 iv L :=
  rd_own Nat.one_pos (fun _ => rfl) h
/-- What the call owns stays owned where nothing that was there turns. -/
theorem own_G {w w' : World} {base : Nat} {e : TypeId} {size n : Nat} {v : Value} {xs : List Value} (h : w.ownsRow base e size v n xs) (hg : G w w') : w'.ownsRow base e size v n xs :=
  h.kept (row := none) (Gx.of_G hg none) (by cases v.ownBlock <;> simp)
theorem own_Gx {w w' : World} {base : Nat} {e : TypeId} {size n : Nat} {v : Value} {xs : List Value} {g : Option Nat} (h : w.ownsRow base e size v n xs) (hg : Gx g w w') (hne : v.ownBlock = none ∨ v.ownBlock ≠ g) : w'.ownsRow base e size v n xs :=
  h.kept hg hne
theorem G.setCells {a b : World} (h : G a b) {g o : Nat} (hg : a.heap.size ≤ g) : ∀ (vs : List Value), G a (b.setCells g o vs) := by
  intro vs
  induction vs generalizing b o with
  | nil => exact h
  | cons v r ih => exact ih (h.setCell (p := ⟨g, o, none⟩) hg v)
/-- k elements and one more, the cells of the k-th being cs. -/
theorem take_put {xs cs pre : List Value} {k sz n : Nat} (hl : xs.length = n * sz) (hk : k < n) (ht : xs.take (k * sz) = pre) (hc : cs.length = sz) :
    (xs.take (k * sz) ++ cs ++ xs.drop (k * sz + cs.length)).take ((k + 1) * sz) = pre ++ cs := by
  have h1 : k * sz + sz ≤ n * sz := by
    rw [← Nat.succ_mul]; exact Nat.mul_le_mul_right _ hk
  have h2 : (xs.take (k * sz) ++ cs).length = (k + 1) * sz := by
    rw [List.length_append, List.length_take, hl, hc, Nat.succ_mul]; omega
  rw [List.take_append_of_le_length (by rw [h2]; exact Nat.le_refl _), List.take_of_length_le (by rw [h2]; exact Nat.le_refl _), ht]
/-! A region that draws its order, whose operations read and whose callees leave alone all that was there: one walk, in the order of the text. -/
theorem region_quiet_G {P : Program} {id : Nat} {Q : Exit → Act → World → Prop} {a : Act} {w : World} {l : List Oper} (hm : P.follows .mixedOrders = true) (hB : Region.lexB .any l.toArray = true)
    (h : wpQuiet P l.toArray (fun w' => ∃ p : Regrown, w' = Sort.grow (redrawn w p.d) p.os) (fun a' => ∀ w', G w w' → Q .normal a' w') l a) : (Code.region id l.toArray true).wp P Q a w := by
  refine wp_region_quiet (C := fun w' => ∃ p : Regrown, w' = Sort.grow (redrawn w p.d) p.os) hm hB ⟨⟨w.drawn + 1, #[]⟩, by rw [Sort.grow_empty]; rfl⟩ ?_
  have e : (fun a' => ∀ w', (∃ p : Regrown, w' = Sort.grow (redrawn w p.d) p.os) → Q .normal a' w') = (fun a' => ∀ w', G w w' → Q .normal a' w') := by
    funext a'
    apply propext
    constructor
    · intro k w' hg
      obtain ⟨p, hp⟩ := regrown_of_below hg
      exact k w' ⟨p, hp⟩
    · intro k w' ⟨p, hp⟩
      subst hp
      exact k _ (G.regrown w p.d p.os)
  rw [e]
  simpa using h
theorem cellR {w : World} {a : Addr} {v : Value} (h : w.cell? a = some v) : ∀ (d : Nat) (os : Array Obj), (Sort.grow (redrawn w d) os).cell? a = some v := fun d os => cell_regrown h d os
theorem quiet_G {P : Program} {f : FuncId} {args : Array Value} {w : World} {d : Nat} {os : Array Obj} {v : Value}
    (h : Calls P f args (Sort.grow (redrawn w d) os) fun e w' => e = .returned v ∧ G (Sort.grow (redrawn w d) os) w') : Calls P f args (Sort.grow (redrawn w d) os) fun e w'' => e = .returned v ∧ ∃ p : Regrown, w'' = Sort.grow (redrawn w p.d) p.os :=
  Calls.regrown_of h
theorem quiet_G_same {P : Program} {f : FuncId} {args : Array Value} {w : World} {d : Nat} {os : Array Obj} {v : Value}
    (h : Calls P f args (Sort.grow (redrawn w d) os) fun e w' => e = .returned v ∧ Sort.grow (redrawn w d) os = w') : Calls P f args (Sort.grow (redrawn w d) os) fun e w'' => e = .returned v ∧ ∃ p : Regrown, w'' = Sort.grow (redrawn w p.d) p.os :=
  h.mono fun _ _ ⟨he, hw⟩ => ⟨he, ⟨d, os⟩, hw.symm⟩
theorem quiet_G_drew {P : Program} {f : FuncId} {args : Array Value} {w : World} {d : Nat} {os : Array Obj} {v : Value}
    (h : Calls P f args (Sort.grow (redrawn w d) os) fun e w' => e = .returned v ∧ ∃ n, w' = (Sort.grow (redrawn w d) os).drewN n) : Calls P f args (Sort.grow (redrawn w d) os) fun e w'' => e = .returned v ∧ ∃ p : Regrown, w'' = Sort.grow (redrawn w p.d) p.os :=
  quiet_G (h.mono fun _ _ ⟨he, n, hn⟩ => ⟨he, by rw [hn]; exact (G.refl _).drewN n⟩)
theorem rdR {α : Type} {w : World} {A : Option Addr} {sz : Nat} {f : α → List Value} {L : List α} (h : Rd w A sz f L) (d : Nat) (os : Array Obj) : Rd (Sort.grow (redrawn w d) os) A sz f L := h.G (G.regrown w d os)
/-- A result that is a slice of the call's own: n elements, the cells xs. -/
def Made (w : World) (T sz n : Nat) (xs : List Value) (e : Ending) (w' : World) : Prop :=
  ∃ g, e = .returned (.slice (some ⟨g, 0, none⟩) n n) ∧ w.heap.size ≤ g ∧ g < w'.heap.size ∧ G w w' ∧ w'.ownsRow w.heap.size T sz (.slice (some ⟨g, 0, none⟩) n n) n xs

/-- A mark's end: the number behind, the row's new cells, nothing else turned. -/
def Marked (w : World) (base T sz : Nat) (A : Option Addr) (n c : Nat) (k : Int) (xs : List Value) (e : Ending) (w' : World) : Prop :=
  e = .returned (.int .i64 k) ∧ Gx (A.map (·.block)) w w' ∧ w'.ownsRow base T sz (.slice A n c) n xs

end Go.Proofs.YtmcddcdhppomkaaDoor
