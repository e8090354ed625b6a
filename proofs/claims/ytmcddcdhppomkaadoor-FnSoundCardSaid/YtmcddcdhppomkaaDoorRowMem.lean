/-
  Words for memory: slices of slices of integers. No function in sight.
-/
import Derived.Test.YtmcddcdhppomkaaDoorRes
import Derived.Test.YtmcddcdhppomkaaDoorInts
import Derived.Deep.Onto
namespace Go.Proofs.YtmcddcdhppomkaaDoor
open Go.RowKit

/-- Only blocks from lo up to hi have turned, and what is new. -/
structure Gi (lo hi : Nat) (w w' : World) : Prop where
  os : w'.os = w.os
  tape : w'.tape = w.tape
  output : w'.output = w.output
  size : w.heap.size ≤ w'.heap.size
  block : ∀ k, k < w.heap.size → (k < lo ∨ hi ≤ k) → w'.heap[k]? = w.heap[k]?
section
variable {lo hi : Nat} {a b c w w' : World}
theorem Gi.of_G (h : G w w') : Gi lo hi w w' := ⟨h.os, h.tape, h.output, h.size, fun k hk _ => Below.block h k hk⟩
theorem Gi.refl (w : World) : Gi lo hi w w := Gi.of_G (G.refl w)
theorem Gi.of_Gx {g : Option Nat} (h : Gx g w w') (hg : ∀ k, g = some k → lo ≤ k ∧ k < hi) : Gi lo hi w w' := ⟨h.os, h.tape, h.output, h.size, fun k hk ho => h.block k hk (fun e => by have := hg k e.symm; omega)⟩
theorem Gi.trans (h : Gi lo hi a b) (k : Gi lo hi b c) : Gi lo hi a c :=
  ⟨k.os.trans h.os, k.tape.trans h.tape, k.output.trans h.output, Nat.le_trans h.size k.size, fun i hi ho => (k.block i (Nat.lt_of_lt_of_le hi h.size) ho).trans (h.block i hi ho)⟩
theorem Gi.g (h : G a b) (k : Gi lo hi b c) (hl : a.heap.size ≤ lo) : G a c :=
  ⟨k.os.trans h.os, k.tape.trans h.tape, k.output.trans h.output, Nat.le_trans h.size k.size, fun i hi => (k.block i (Nat.lt_of_lt_of_le hi h.size) (.inl (by omega))).trans (Below.block h i hi)⟩
theorem Gi.cell (h : Gi lo hi w w') {p : Addr} {v : Value} (hc : w.cell? p = some v) (ho : p.block < lo ∨ hi ≤ p.block) : w'.cell? p = some v := by
  rw [World.cell?_of_block (h.block p.block (block_lt_of_cell hc) ho)]; exact hc
theorem own_Gi {B : Nat} {e : TypeId} {size n : Nat} {v : Value} {xs : List Value} (h : w.ownsRow B e size v n xs) (hg : Gi lo hi w w') (ho : ∀ k, v.ownBlock = some k → k < lo ∨ hi ≤ k) : w'.ownsRow B e size v n xs := by
  refine ⟨h.1, h.2.imp id ?_⟩
  rintro ⟨g, cap, cur, rfl, hb, hh, r⟩
  refine ⟨g, cap, cur, rfl, hb, ?_, r⟩
  rw [hg.block g (Array.getElem?_eq_some_iff.1 hh).1 (ho g rfl)]
  exact hh
end

/-- A slice that reads as rows. -/
def RdR (w : World) (A : Option Addr) (M : List (List Int)) : Prop :=
  M ≠ [] → ∃ b o, A = some ⟨b, o, none⟩ ∧ ∀ i r, M[i]? = some r → ∃ Ai ci, r.length ≤ ci ∧ w.cell? ⟨b, o + i, none⟩ = some (.slice Ai r.length ci) ∧ Rd w Ai 1 iv r
theorem RdR.g {w w' : World} {A : Option Addr} {M : List (List Int)} (h : RdR w A M) (g : G w w') : RdR w' A M := fun hn => by
  obtain ⟨b, o, rfl, hc⟩ := h hn
  exact ⟨b, o, rfl, fun i r hr => by obtain ⟨Ai, ci, h0, h1, h2⟩ := hc i r hr; exact ⟨Ai, ci, h0, g.cell h1, h2.G g⟩⟩
theorem RdR.at_ {w : World} {A : Option Addr} {M : List (List Int)} (h : RdR w A M) {k : Nat} (hk : k < M.length) :
    ∃ b o r Ai ci, A = some ⟨b, o, none⟩ ∧ M[k]? = some r ∧ r.length ≤ ci ∧ w.cell? ⟨b, o + k, none⟩ = some (.slice Ai r.length ci) ∧ Rd w Ai 1 iv r := by
  obtain ⟨b, o, rfl, hc⟩ := h (by rintro rfl; simp at hk)
  obtain ⟨Ai, ci, h0, h1, h2⟩ := hc k _ (List.getElem?_eq_getElem hk)
  exact ⟨b, o, _, Ai, ci, rfl, List.getElem?_eq_getElem hk, h0, h1, h2⟩

/-- An argument that is a slice of slices. -/
structure SRows where
  A : Option Addr
  n : Nat
  c : Nat
  L : List (List Int)
def ArgSS (W : World) (v : Value) (z : SRows) : Prop := v = .slice z.A z.n z.c ∧ z.n ≤ maxLen ∧ z.L.length = z.n ∧ RdR W z.A z.L ∧ ∀ r ∈ z.L, r.length ≤ maxLen
/-- Rows of the call's own: the slice v, its cells hs, each a slice of its own; no two share a block. -/
structure OwnR (w : World) (B : Nat) (TS TI : TypeId) (v : Value) (hs : List Value) (M : List (List Int)) : Prop where
  len : hs.length = M.length
  own : w.ownsRow B TS 1 v M.length hs
  row : ∀ (i : Nat) (h : Value) (r : List Int), hs[i]? = some h → M[i]? = some r → w.ownsRow B TI 1 h r.length (r.flatMap iv)
  top : ∀ (i : Nat) (h : Value), hs[i]? = some h → h.ownBlock = none ∨ h.ownBlock ≠ v.ownBlock
  part : ∀ (i j : Nat) (h k : Value), i ≠ j → hs[i]? = some h → hs[j]? = some k → h.ownBlock = none ∨ h.ownBlock ≠ k.ownBlock
section
variable {w w' : World} {B : Nat} {TS TI : TypeId} {v : Value} {hs : List Value} {M : List (List Int)}
theorem OwnR.g (h : OwnR w B TS TI v hs M) (g : G w w') : OwnR w' B TS TI v hs M := ⟨h.len, own_G h.own g, fun i x r h1 h2 => own_G (h.row i x r h1 h2) g, h.top, h.part⟩
theorem OwnR.mono (h : OwnR w B TS TI v hs M) {B' : Nat} (hb : B' ≤ B) : OwnR w B' TS TI v hs M := by
  have low : ∀ {T : TypeId} {n : Nat} {v : Value} {xs : List Value}, w.ownsRow B T 1 v n xs → w.ownsRow B' T 1 v n xs := fun h => by
    refine ⟨h.1, h.2.imp id ?_⟩
    rintro ⟨g, cap, cur, hv, hbg, rest⟩
    exact ⟨g, cap, cur, hv, Nat.le_trans hb hbg, rest⟩
  exact ⟨h.len, low h.own, fun i x r h1 h2 => low (h.row i x r h1 h2), h.top, h.part⟩
/-- The blocks lie from lo up to hi. -/
def InR (lo hi : Nat) (v : Value) (hs : List Value) : Prop := (∀ y, v.ownBlock = some y → lo ≤ y ∧ y < hi) ∧ ∀ (i : Nat) (h : Value) (y : Nat), hs[i]? = some h → h.ownBlock = some y → lo ≤ y ∧ y < hi
theorem OwnR.inR (h : OwnR w B TS TI v hs M) : InR B w.heap.size v hs :=
  ⟨h.own.lt, fun i x y hx hy => (h.row i x _ hx (List.getElem?_eq_getElem (by rw [← h.len]; exact (List.getElem?_eq_some_iff.1 hx).1))).lt y hy⟩
theorem OwnR.gi {lo hi lo' hi' : Nat} (h : OwnR w B TS TI v hs M) (g : Gi lo hi w w') (hin : InR lo' hi' v hs) (ho : hi' ≤ lo ∨ hi ≤ lo') : OwnR w' B TS TI v hs M :=
  ⟨h.len, own_Gi h.own g (fun k e => by have := hin.1 k e; omega), fun i x r h1 h2 => own_Gi (h.row i x r h1 h2) g (fun k e => by have := hin.2 i x k h1 e; omega), h.top, h.part⟩
/-- A plain row was marked elsewhere. -/
theorem OwnR.gx {row : Option Nat} {lo' hi' : Nat} (h : OwnR w B TS TI v hs M) (g : Gx row w w') (hin : InR lo' hi' v hs) (ho : ∀ k, row = some k → k < lo' ∨ hi' ≤ k) : OwnR w' B TS TI v hs M :=
  ⟨h.len, own_Gx h.own g (by
    cases e : v.ownBlock with
    | none => exact .inl rfl
    | some y => right; intro e2; have := hin.1 y e; have := ho y e2.symm; omega), fun i x r h1 h2 => own_Gx (h.row i x r h1 h2) g (by
    cases e : x.ownBlock with
    | none => exact .inl rfl
    | some y => right; intro e2; have := hin.2 i x y h1 e; have := ho y e2.symm; omega), h.top, h.part⟩
/-- One row more, appended. -/
theorem OwnR.snoc {w2 : World} {hn : Value} {r : List Int} {g cap n : Nat} (h : OwnR w B TS TI v hs M) (hB : B ≤ w.heap.size) (hg : G w w') (hr : w'.ownsRow w.heap.size TI 1 hn r.length (r.flatMap iv)) (hl : M.length = n)
    (hown : w2.ownsRow B TS 1 (.slice (some ⟨g, 0, none⟩) (n + 1) cap) (n + 1) (hs ++ [hn])) (hgrow : w'.grownBy w2 v.ownBlock) (hlies : v.ownBlock = some g ∨ g = w'.heap.size) :
    OwnR w2 B TS TI (.slice (some ⟨g, 0, none⟩) (n + 1) cap) (hs ++ [hn]) (M ++ [r]) := by
  have hsz := hg.size
  have hin := h.inR
  have hlen := h.len
  have at_ : ∀ {α : Type} (L : List α) (x : α) (i : Nat) (y : α), (L ++ [x])[i]? = some y → (i < L.length ∧ L[i]? = some y) ∨ (i = L.length ∧ y = x) := fun L x i y e => by
    rcases Nat.lt_or_ge i L.length with hi | hi
    · rw [List.getElem?_append_left hi] at e; exact .inl ⟨hi, e⟩
    · rw [List.getElem?_append_right hi] at e
      match q : i - L.length, e with
      | 0, e => simp only [List.getElem?_cons_zero, Option.some.injEq] at e; exact .inr ⟨by omega, e.symm⟩
      | q + 1, e => simp at e
  have hnv : hn.ownBlock = none ∨ hn.ownBlock ≠ v.ownBlock := by
    cases e : hn.ownBlock with
    | none => exact .inl rfl
    | some y => right; intro e2; have := (hr.lt y e).1; have := (hin.1 y e2.symm).2; omega
  refine ⟨by simp [hlen], by rw [List.length_append, hl]; exact hown, fun i x s h1 h2 => ?_, fun i x h1 => ?_, fun i j x y hij h1 h2 => ?_⟩
  · rcases at_ _ _ _ _ h1 with ⟨hi, e1⟩ | ⟨hi, rfl⟩
    · rcases at_ _ _ _ _ h2 with ⟨_, e2⟩ | ⟨h2, _⟩
      · exact own_Gx (g := v.ownBlock) (own_G (h.row i x s e1 e2) hg) hgrow (h.top i x e1)
      · omega
    · rcases at_ _ _ _ _ h2 with ⟨h2, _⟩ | ⟨_, rfl⟩
      · omega
      · exact World.ownsRow.mono (own_Gx (g := v.ownBlock) hr hgrow hnv) hB
  · show x.ownBlock = none ∨ x.ownBlock ≠ some g
    rcases at_ _ _ _ _ h1 with ⟨_, e1⟩ | ⟨_, rfl⟩
    · cases e : x.ownBlock with
      | none => exact .inl rfl
      | some y =>
        right; intro e2; cases e2
        have h3 := (hin.2 i x g e1 e).2
        rcases hlies with h4 | h4
        · rcases h.top i x e1 with h5 | h5
          · rw [e] at h5; cases h5
          · exact h5 (e.trans h4.symm)
        · omega
    · cases e : x.ownBlock with
      | none => exact .inl rfl
      | some y =>
        right; intro e2; cases e2
        have h3 := hr.lt g e
        rcases hlies with h4 | h4
        · have := (hin.1 g h4).2; omega
        · omega
  · rcases at_ _ _ _ _ h1 with ⟨_, e1⟩ | ⟨hi, rfl⟩
    · rcases at_ _ _ _ _ h2 with ⟨_, e2⟩ | ⟨_, rfl⟩
      · exact h.part i j x y hij e1 e2
      · cases e : x.ownBlock with
        | none => exact .inl rfl
        | some z => right; intro e2; have := (hin.2 i x z e1 e).2; have := (hr.lt z e2.symm).1; omega
    · rcases at_ _ _ _ _ h2 with ⟨_, e2⟩ | ⟨hj, _⟩
      · cases e : x.ownBlock with
        | none => exact .inl rfl
        | some z => right; intro e3; have := (hin.2 j y z e2 e3.symm).2; have := (hr.lt z e).1; omega
      · omega
theorem OwnR.nil (w : World) (B : Nat) (TS TI : TypeId) : OwnR w B TS TI (.slice none 0 0) [] [] := ⟨rfl, World.ownsRow_nil _ _ _ _, fun i h r e => by simp at e, fun i h e => by simp at e, fun i j h k _ e => by simp at e⟩
theorem OwnR.lit {w : World} {B : Nat} {TS TI : TypeId} {v : Value} (h : w.ownsRow B TS 1 v 0 []) : OwnR w B TS TI v [] [] := ⟨rfl, h, fun i h r e => by simp at e, fun i h e => by simp at e, fun i j h k _ e => by simp at e⟩
theorem own_slice {w : World} {B : Nat} {T : TypeId} {n : Nat} {h : Value} {xs : List Value} (ho : w.ownsRow B T 1 h n xs) : ∃ A c, h = .slice A n c ∧ n ≤ c := by
  rcases ho.2 with ⟨rfl, rfl⟩ | ⟨g, cap, cur, rfl, _, _, h1, _⟩
  · exact ⟨none, 0, rfl, Nat.le_refl _⟩
  · exact ⟨_, _, rfl, h1⟩
theorem OwnR.rd {A : Option Addr} {n c : Nat} (h : OwnR w B TS TI (.slice A n c) hs M) : RdR w A M := fun hn => by
  rcases h.own.2 with ⟨hv, h0⟩ | ⟨g, cap, cur, hv, _⟩
  · exact absurd (List.length_eq_zero_iff.1 h0) hn
  · simp only [Value.slice.injEq] at hv
    obtain ⟨rfl, rfl, rfl⟩ := hv
    refine ⟨g, 0, rfl, fun i r hr => ?_⟩
    have hi : i < hs.length := by rw [h.len]; exact (List.getElem?_eq_some_iff.1 hr).1
    have ho := h.row i _ r (List.getElem?_eq_getElem hi) hr
    obtain ⟨Ai, ci, e, hle⟩ := own_slice ho
    have hc := own_cellAt_mid h.own (List.getElem?_eq_getElem hi)
    rw [e] at hc ho
    exact ⟨Ai, ci, hle, by rw [Nat.zero_add]; exact hc, rd_ints ho⟩
/-- The k-th row turned into another of its length. -/
theorem OwnR.turned {k : Nat} {A : Option Addr} {n c : Nat} {r : List Int} (h : OwnR w B TS TI v hs M) (hk : hs[k]? = some (.slice A n c)) (hr : r.length = n) (hM : ∀ r0, M[k]? = some r0 → r0.length = n)
    (g : Gx (A.map (·.block)) w w') (ho : w'.ownsRow B TI 1 (.slice A n c) n (r.flatMap iv)) : OwnR w' B TS TI v hs (M.set k r) := by
  have hb : (Value.slice A n c).ownBlock = A.map (·.block) := by cases A <;> rfl
  have hkl : k < M.length := by rw [← h.len]; exact (List.getElem?_eq_some_iff.1 hk).1
  refine ⟨by rw [List.length_set]; exact h.len, ?_, fun i x s h1 h2 => ?_, h.top, h.part⟩
  · rw [List.length_set]
    refine own_Gx h.own g ?_
    rcases h.top k _ hk with e | e
    · right; intro e2; rw [hb] at e; rw [e] at e2
      rcases h.own.2 with ⟨_, h0⟩ | ⟨g', cap, cur, hv, _⟩
      · omega
      · rw [hv] at e2; simp [Value.ownBlock] at e2
    · right; rw [hb] at e; exact fun e2 => e e2.symm
  · by_cases hik : i = k
    · subst hik
      rw [hk] at h1
      cases h1
      rw [List.getElem?_set_self hkl] at h2
      cases h2
      rw [hr]
      exact ho
    · rw [List.getElem?_set_ne (by omega)] at h2
      refine own_Gx (h.row i x s h1 h2) g ?_
      rw [← hb]
      exact h.part i k _ _ hik h1 hk
end
def ResR (w : World) (TS TI : TypeId) (R : List (List Int) × Int) (e : Ending) (w' : World) : Prop :=
  ∃ A c hs, e = .returned (.tuple #[.slice A R.1.length c, .int .i64 R.2]) ∧ G w w' ∧ OwnR w' w.heap.size TS TI (.slice A R.1.length c) hs R.1
theorem own_bk {A : Option Addr} {n c k : Nat} (h : (Value.slice A n c).ownBlock = some k) : ∃ a, A = some a ∧ a.block = k := by
  cases A with
  | none => simp [Value.ownBlock] at h
  | some a => exact ⟨a, rfl, by simpa [Value.ownBlock] using h⟩
theorem map_bk {A : Option Addr} {k : Nat} (h : A.map (·.block) = some k) : ∃ a, A = some a ∧ a.block = k := by
  cases A with
  | none => simp at h
  | some a => exact ⟨a, rfl, by simpa using h⟩
/-- Rows of rising numbers. -/
def mkR (k : Int) : List Nat → List (List Int)
  | [] => []
  | n :: ns => upFrom k n :: mkR (k + n) ns
def sumN (ns : List Nat) : Nat := ns.foldr (· + ·) 0
theorem sumN_append (a b : List Nat) : sumN (a ++ b) = sumN a + sumN b := by
  induction a with
  | nil => simp [sumN]
  | cons x a ih => simp only [sumN, List.cons_append, List.foldr_cons] at ih ⊢; omega
theorem sumN_take (ns : List Nat) (k : Nat) : sumN (ns.take k) ≤ sumN ns := by
  have h := sumN_append (ns.take k) (ns.drop k)
  rw [List.take_append_drop] at h
  omega
theorem sumN_mem {ns : List Nat} {n : Nat} (h : n ∈ ns) : n ≤ sumN ns := by
  obtain ⟨a, b, rfl⟩ := List.append_of_mem h
  rw [sumN_append]
  simp only [sumN, List.foldr_cons]
  omega
theorem mkR_len (k : Int) (ns : List Nat) : (mkR k ns).length = ns.length := by
  induction ns generalizing k with
  | nil => rfl
  | cons n ns ih => simp [mkR, ih]
theorem mkR_snoc (k : Int) (ns : List Nat) (n : Nat) : mkR k (ns ++ [n]) = mkR k ns ++ [upFrom (k + sumN ns) n] := by
  induction ns generalizing k with
  | nil => simp [mkR, sumN]
  | cons m ns ih =>
    simp only [mkR, List.cons_append, ih, sumN, List.foldr_cons]
    rw [show k + (m : Int) + ((List.foldr (· + ·) 0 ns : Nat) : Int) = k + ((m + List.foldr (· + ·) 0 ns : Nat) : Int) by omega]
theorem mkR_at (k : Int) (ns : List Nat) (i n : Nat) (h : ns[i]? = some n) : (mkR k ns)[i]? = some (upFrom (k + sumN (ns.take i)) n) := by
  induction ns generalizing k i with
  | nil => simp at h
  | cons m ns ih =>
    cases i with
    | zero => simp only [List.getElem?_cons_zero, Option.some.injEq] at h; subst h; simp [mkR, sumN]
    | succ i =>
      simp only [List.getElem?_cons_succ] at h
      simp only [mkR, List.getElem?_cons_succ, ih (k + m) i h, sumN, List.take_succ_cons, List.foldr_cons]
      rw [show k + (m : Int) + ((List.foldr (· + ·) 0 (ns.take i) : Nat) : Int) = k + ((m + List.foldr (· + ·) 0 (ns.take i) : Nat) : Int) by omega]
theorem mkR_lens (k : Int) (ns : List Nat) : (mkR k ns).map List.length = ns := by
  induction ns generalizing k with
  | nil => rfl
  | cons n ns ih => simp [mkR, ih, upFrom_len]
/-- k rows marked, and one more. -/
theorem mkR_step {k0 : Int} {M : List (List Int)} {k : Nat} {r : List Int} (h : M[k]? = some r) :
    (mkR k0 ((M.map List.length).take k) ++ M.drop k).set k (upFrom (k0 + sumN ((M.map List.length).take k)) r.length) = mkR k0 ((M.map List.length).take (k + 1)) ++ M.drop (k + 1) := by
  obtain ⟨hk, rfl⟩ := List.getElem?_eq_some_iff.1 h
  have hl : (M.map List.length)[k]? = some (M[k].length) := by simp [hk]
  have e1 : (M.map List.length).take (k + 1) = (M.map List.length).take k ++ [M[k].length] := take_snoc hl
  rw [e1, mkR_snoc, List.set_append_right _ _ (by rw [mkR_len, List.length_take, List.length_map]; omega), mkR_len, List.length_take, List.length_map, Nat.min_eq_left (by omega), Nat.sub_self, List.drop_eq_getElem_cons hk, List.set_cons_zero, List.append_assoc]
  rfl
/-- k rows of n laid. -/
structure OwnK (w : World) (B : Nat) (TS TI : TypeId) (g n : Nat) (xs : List Value) (M : List (List Int)) (k : Nat) : Prop where
  own : w.ownsRow B TS 1 (.slice (some ⟨g, 0, none⟩) n n) n xs
  row : ∀ (i : Nat) (h : Value) (r : List Int), i < k → xs[i]? = some h → M[i]? = some r → w.ownsRow B TI 1 h r.length (r.flatMap iv)
  top : ∀ (i : Nat) (h : Value), i < k → xs[i]? = some h → h.ownBlock = none ∨ h.ownBlock ≠ some g
  part : ∀ (i j : Nat) (h k' : Value), i < k → j < k → i ≠ j → xs[i]? = some h → xs[j]? = some k' → h.ownBlock = none ∨ h.ownBlock ≠ k'.ownBlock
section
variable {w w' : World} {B : Nat} {TS TI : TypeId} {g n : Nat} {xs : List Value} {M : List (List Int)} {k : Nat}
theorem OwnK.keep (h : OwnK w B TS TI g n xs M k) (hg : G w w') : OwnK w' B TS TI g n xs M k := ⟨own_G h.own hg, fun i x r h0 h1 h2 => own_G (h.row i x r h0 h1 h2) hg, h.top, h.part⟩
theorem OwnK.done (h : OwnK w B TS TI g n xs M n) (hn : M.length = n) : OwnR w B TS TI (.slice (some ⟨g, 0, none⟩) n n) xs M := by
  have hl : xs.length = n := by have := h.own.1; omega
  refine ⟨by omega, by rw [hn]; exact h.own, fun i x r h1 h2 => h.row i x r (by have := (List.getElem?_eq_some_iff.1 h1).1; omega) h1 h2, fun i x h1 => h.top i x (by have := (List.getElem?_eq_some_iff.1 h1).1; omega) h1, fun i j x y hij h1 h2 => h.part i j x y (by have := (List.getElem?_eq_some_iff.1 h1).1; omega) (by have := (List.getElem?_eq_some_iff.1 h2).1; omega) hij h1 h2⟩
/-- One row more: it was laid behind all that the world held, then stored. -/
theorem OwnK.step {w0 : World} (h0 : OwnK w0 B TS TI g n xs M k) (hg : G w0 w) (hk : k < n) {q m c : Nat} {r : List Int} (hr : M[k]? = some r) (hm : r.length = m) (hB : B ≤ w0.heap.size) (ho : w.ownsRow w0.heap.size TI 1 (.slice (some ⟨q, 0, none⟩) m c) m (r.flatMap iv)) :
    OwnK (w.setCell ⟨g, k, none⟩ (.slice (some ⟨q, 0, none⟩) m c)) B TS TI g n (xs.set k (.slice (some ⟨q, 0, none⟩) m c)) M (k + 1) := by
  have hs := (h0.keep hg).own.stored k (.slice (some ⟨q, 0, none⟩) m c)
  have hq := ho.lt q rfl
  have hgl := h0.own.lt g rfl
  have hxl : xs.length = n := by have := h0.own.1; omega
  have old : ∀ (i : Nat) (x : Value) (r : List Int), i < k → xs[i]? = some x → M[i]? = some r → ∀ y, x.ownBlock = some y → y < w0.heap.size := fun i x r a b c y e => ((h0.row i x r a b c).lt y e).2
  have hM : ∀ i, i < k + 1 → ∃ r, M[i]? = some r := fun i hi => ⟨_, List.getElem?_eq_getElem (by have := (List.getElem?_eq_some_iff.1 hr).1; omega)⟩
  have new : (xs.set k (.slice (some ⟨q, 0, none⟩) m c))[k]? = some (.slice (some ⟨q, 0, none⟩) m c) := List.getElem?_set_self (by omega)
  refine ⟨hs.1, fun i x s hi h1 h2 => ?_, fun i x hi h1 => ?_, fun i j x y hi hj hij h1 h2 => ?_⟩
  · by_cases e : i = k
    · subst e
      rw [new] at h1
      cases h1
      rw [hr] at h2
      cases h2
      rw [hm]
      exact World.ownsRow.mono (own_Gx (g := some g) ho hs.2 (.inr (by simp [Value.ownBlock]; omega))) hB
    · rw [List.getElem?_set_ne (by omega)] at h1
      exact own_Gx (g := some g) ((h0.keep hg).row i x s (by omega) h1 h2) hs.2 (h0.top i x (by omega) h1)
  · by_cases e : i = k
    · subst e
      rw [new] at h1
      cases h1
      right
      simp only [Value.ownBlock, ne_eq, Option.some.injEq]
      omega
    · rw [List.getElem?_set_ne (by omega)] at h1
      exact h0.top i x (by omega) h1
  · have far : ∀ (i : Nat) (x : Value), i < k → xs[i]? = some x → x.ownBlock = none ∨ x.ownBlock ≠ some q := fun i x hi hx => by
      obtain ⟨s, hs⟩ := hM i (by omega)
      right
      intro e
      have := old i x s hi hx hs q e
      omega
    by_cases e : i = k
    · subst e
      rw [new] at h1
      cases h1
      rw [List.getElem?_set_ne (by omega)] at h2
      right
      rcases far j y (by omega) h2 with h | h
      · rw [h]; simp [Value.ownBlock]
      · exact fun e => h e.symm
    · rw [List.getElem?_set_ne (by omega)] at h1
      by_cases e2 : j = k
      · subst e2
        rw [new] at h2
        cases h2
        exact far i x (by omega) h1
      · rw [List.getElem?_set_ne (by omega)] at h2
        exact h0.part i j x y (by omega) (by omega) hij h1 h2
end
end Go.Proofs.YtmcddcdhppomkaaDoor
