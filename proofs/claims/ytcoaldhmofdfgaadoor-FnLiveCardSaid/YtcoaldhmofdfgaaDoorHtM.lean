/-
  Plain laws of the text of holds. No program in sight.
-/
import Derived.Test.YtcoaldhmofdfgaaDoorTxtM
import Derived.Test.YtcoaldhmofdfgaaDoorValidHolds
namespace Go.Proofs.YtcoaldhmofdfgaaDoor
open Go.RowKit

def htOne (h : SHold) : List UInt8 := Lib.itoa h.At ++ 43 :: Lib.itoa h.Length
def htL (L : List SHold) : List UInt8 := if L = [] then [45] else joinL 32 (L.map htOne)
theorem htOne_no32 (h : SHold) : (32 : UInt8) ∉ htOne h := by
  unfold htOne
  simp only [List.mem_append, List.mem_cons, not_or]
  exact ⟨itoa_free (by decide) (by decide), by decide, itoa_free (by decide) (by decide)⟩
theorem htOne_ne (h : SHold) : htOne h ≠ [] := by unfold htOne; simp
theorem htOne_split (h : SHold) : splitL 43 (htOne h) = [Lib.itoa h.At, Lib.itoa h.Length] := by
  unfold htOne
  rw [split_hit 43 _ _ (itoa_free (by decide) (by decide)), split_miss 43 _ (itoa_free (by decide) (by decide))]
theorem htOne_inj {a b : SHold} (h : htOne a = htOne b) : a = b := by
  have e := htOne_split a
  rw [h, htOne_split b] at e
  simp only [List.cons.injEq, and_true] at e
  obtain ⟨a1, a2⟩ := a
  obtain ⟨b1, b2⟩ := b
  have h1 := itoa_inj e.1
  have h2 := itoa_inj e.2
  simp only at h1 h2
  rw [h1, h2]
theorem htL_split {L : List SHold} (h : L ≠ []) : splitL 32 (htL L) = L.map htOne := by
  unfold htL
  rw [if_neg h]
  refine split_join 32 _ (by simpa using h) fun x hx => ?_
  obtain ⟨y, _, rfl⟩ := List.mem_map.1 hx
  exact htOne_no32 y
theorem htL_nil_iff {L : List SHold} (h : htL L = [45]) : L = [] := by
  by_cases hn : L = []
  · exact hn
  · exfalso
    have e := htL_split hn
    rw [h] at e
    cases L with
    | nil => exact hn rfl
    | cons x L =>
      have e2 : splitL 32 [45] = [[45]] := by decide
      rw [e2] at e
      simp only [List.map_cons, List.cons.injEq] at e
      have : (43 : UInt8) ∈ htOne x := by unfold htOne; simp
      rw [← e.1] at this
      simp at this
theorem map_inj {α β : Type} {f : α → β} (hf : ∀ a b, f a = f b → a = b) : ∀ {L M : List α}, L.map f = M.map f → L = M
  | [], [], _ => rfl
  | [], y :: M, h => by simp at h
  | x :: L, [], h => by simp at h
  | x :: L, y :: M, h => by
    simp only [List.map_cons, List.cons.injEq] at h
    rw [hf _ _ h.1, map_inj hf h.2]
theorem htL_inj {L M : List SHold} (h : htL L = htL M) : L = M := by
  by_cases h1 : L = []
  · subst h1; exact (htL_nil_iff h.symm).symm
  · by_cases h2 : M = []
    · subst h2; exact htL_nil_iff h
    · have e := htL_split h1
      rw [h, htL_split h2] at e
      exact (map_inj (fun _ _ => htOne_inj) e).symm
def htB (L : List SHold) : ByteArray := mkB (htL L)
/-- The text of holds. -/
def htR (L : List SHold) : ByteArray := if vhs L = true then htB L else ⟨#[]⟩
def HtOf (s : ByteArray) (L : List SHold) : Prop := vhs L = true ∧ htB L = s
open Classical in
noncomputable def rhR (s : ByteArray) : List SHold × Bool := if h : ∃ L, HtOf s L then (h.choose, true) else ([], false)
theorem rhR_of {s : ByteArray} {L : List SHold} (h : HtOf s L) : rhR s = (L, true) := by
  unfold rhR
  rw [dif_pos ⟨L, h⟩]
  congr 1
  have k := Exists.choose_spec (⟨L, h⟩ : ∃ L, HtOf s L)
  exact htL_inj (mkB_inj (k.2.trans h.2.symm))
theorem rhR_no {s : ByteArray} (h : ∀ L, ¬ HtOf s L) : rhR s = ([], false) := by
  unfold rhR
  rw [dif_neg (fun ⟨L, e⟩ => h L e)]
theorem rhR_len (s : ByteArray) : (rhR s).1.length ≤ 512 := by
  unfold rhR
  split
  · next h =>
    have := h.choose_spec.1
    simp only [vhs, Bool.and_eq_true, decide_eq_true_eq] at this
    simp only; omega
  · simp
/-- The words of a text of holds. -/
theorem ht_words {s : ByteArray} {L : List SHold} (h : htB L = s) (hn : L ≠ []) : splitS 32 s = L.map fun x => mkB (htOne x) := by
  subst h
  unfold splitS htB
  rw [mkB_data, htL_split hn, List.map_map]
  rfl
theorem ht_of_words {s : ByteArray} {M : List SHold} (h : splitS 32 s = M.map fun x => mkB (htOne x)) : htB M = s := by
  have hn : M ≠ [] := by
    rintro rfl
    have := (splitS_len 32 s).1
    rw [h] at this
    simp at this
  have e : splitL 32 s.data.toList = M.map htOne := by
    refine map_inj (fun _ _ => mkB_inj) ?_
    rw [List.map_map]
    exact h
  unfold htB htL
  rw [if_neg hn, ← e, join_split, mkB_of]
theorem ht_parts (x : SHold) : splitS 43 (mkB (htOne x)) = [mkB (Lib.itoa x.At), mkB (Lib.itoa x.Length)] := by
  unfold splitS
  rw [mkB_data, htOne_split]
  rfl
theorem ht_of_parts {y a b : ByteArray} {n m : Int} (h : splitS 43 y = [a, b]) (ha : num a = some n) (hb : num b = some m) : mkB (htOne ⟨n, m⟩) = y := by
  obtain ⟨-, -, rfl⟩ := num_some ha
  obtain ⟨-, -, rfl⟩ := num_some hb
  have e : splitL 43 y.data.toList = [Lib.itoa n, Lib.itoa m] := by
    refine map_inj (fun _ _ => mkB_inj) ?_
    exact h
  have := join_split 43 y.data.toList
  rw [e] at this
  rw [← mkB_of y, ← this]
  rfl
theorem vhs_el {L : List SHold} (h : vhs L = true) {x : SHold} (hx : x ∈ L) : (0 ≤ x.At ∧ x.At ≤ 7200000) ∧ (1 ≤ x.Length ∧ x.Length ≤ 1800000) := by
  have h1 : vhB x = true := by
    simp only [vhs, Bool.and_eq_true, decide_eq_true_eq] at h
    obtain ⟨k, hk⟩ := List.getElem?_of_mem hx
    exact chk_all h.2 hk
  simp only [vhB, Bool.and_eq_true] at h1
  exact ⟨inB_iff.1 h1.1, inB_iff.1 h1.2⟩
theorem vhs_16 {L : List SHold} (h : vhs L = true) : L.length ≤ 16 := by
  simp only [vhs, Bool.and_eq_true, decide_eq_true_eq] at h
  exact h.1
theorem ht_nums {L : List SHold} (h : vhs L = true) {x : SHold} (hx : x ∈ L) : num (mkB (Lib.itoa x.At)) = some x.At ∧ num (mkB (Lib.itoa x.Length)) = some x.Length := by
  have := vhs_el h hx
  exact ⟨num_itoa (by omega) (by omega), num_itoa (by omega) (by omega)⟩
/-- One more. -/
theorem joinL_snoc (c : UInt8) : ∀ (p : List (List UInt8)) (x : List UInt8), p ≠ [] → joinL c (p ++ [x]) = joinL c p ++ c :: x
  | [], _, h => absurd rfl h
  | [a], x, _ => rfl
  | a :: b :: r, x, _ => by
    have := joinL_snoc c (b :: r) x (by simp)
    simp only [List.cons_append, joinL] at this ⊢
    rw [this, List.append_assoc]
    rfl
/-! Reading: the reference's road. -/
theorem dash_iff {s : ByteArray} : s = mkB [45] ↔ s.data.toList = [45] := ⟨fun e => by rw [e, mkB_data], fun e => by rw [← mkB_of s, e]⟩
theorem HtOf.ne {s : ByteArray} {L : List SHold} (h : HtOf s L) (hs : s ≠ mkB [45]) : L ≠ [] := fun e => hs (by rw [← h.2, e]; rfl)
theorem rh_dash : rhR (mkB [45]) = ([], true) := rhR_of (show HtOf (mkB [45]) [] from ⟨rfl, rfl⟩)
theorem rh_len {s y : ByteArray} {k : Nat} (hs : s ≠ mkB [45]) (hy : (splitS 32 s)[k]? = some y) (h : (splitS 43 y).length ≠ 2) : rhR s = ([], false) := rhR_no fun L hL => by
  rw [ht_words hL.2 (hL.ne hs), List.getElem?_map] at hy
  cases hx : L[k]? with
  | none => rw [hx] at hy; cases hy
  | some x =>
    rw [hx] at hy
    simp only [Option.map_some, Option.some.injEq] at hy
    subst hy
    rw [ht_parts] at h
    exact h rfl
theorem rh_num {s y a b : ByteArray} {k : Nat} (hs : s ≠ mkB [45]) (hy : (splitS 32 s)[k]? = some y) (h : splitS 43 y = [a, b]) (hn : okN a = false ∨ okN b = false) : rhR s = ([], false) := rhR_no fun L hL => by
  rw [ht_words hL.2 (hL.ne hs), List.getElem?_map] at hy
  cases hx : L[k]? with
  | none => rw [hx] at hy; cases hy
  | some x =>
    rw [hx] at hy
    simp only [Option.map_some, Option.some.injEq] at hy
    subst hy
    rw [ht_parts] at h
    simp only [List.cons.injEq, and_true] at h
    obtain ⟨rfl, rfl⟩ := h
    have := ht_nums hL.1 (List.mem_of_getElem? hx)
    rw [(okN_of this.1).1, (okN_of this.2).1] at hn
    rcases hn with h | h <;> cases h
theorem rh_step {P : List ByteArray} {M : List SHold} {k : Nat} {y a b : ByteArray} (h : M.map (fun x => mkB (htOne x)) = P.take k) (hy : P[k]? = some y) (hp : splitS 43 y = [a, b]) (ha : okN a = true) (hb : okN b = true) :
    (M ++ [(⟨valN a, valN b⟩ : SHold)]).map (fun x => mkB (htOne x)) = P.take (k + 1) := by
  rw [take_snoc hy, List.map_append, h, List.map_singleton, ht_of_parts hp (num_okN ha) (num_okN hb)]
theorem rh_end {s : ByteArray} {M : List SHold} (h : M.map (fun x => mkB (htOne x)) = splitS 32 s) : rhR s = if vhs M = true then (M, true) else ([], false) := by
  have e := ht_of_words h.symm
  by_cases hv : vhs M = true
  · rw [if_pos hv]; exact rhR_of ⟨hv, e⟩
  · rw [if_neg hv]
    exact rhR_no fun L hL => hv (by rw [← htL_inj (mkB_inj (hL.2.trans e.symm))]; exact hL.1)
/-! Reading: the program's road. -/
noncomputable def rdW (y : ByteArray) : SHold := ⟨valN (cutA 43 y), valN (cutB 43 y)⟩
noncomputable def okW (y : ByteArray) : Bool := [cutA 43 y, cutB 43 y].all okN
theorem cut_one (x : SHold) : cutA 43 (mkB (htOne x)) = mkB (Lib.itoa x.At) ∧ cutB 43 (mkB (htOne x)) = mkB (Lib.itoa x.Length) := by
  unfold cutA cutB
  rw [mkB_data]
  unfold htOne
  rw [cut_hit (itoa_free (by decide) (by decide))]
  exact ⟨rfl, rfl⟩
theorem rdW_one {L : List SHold} (h : vhs L = true) {x : SHold} (hx : x ∈ L) : okW (mkB (htOne x)) = true ∧ rdW (mkB (htOne x)) = x := by
  have hn := ht_nums h hx
  have h1 := okN_of hn.1
  have h2 := okN_of hn.2
  unfold okW rdW
  rw [(cut_one x).1, (cut_one x).2, h1.2, h2.2]
  refine ⟨?_, rfl⟩
  simp [h1.1, h2.1]
theorem HtOf.words {s : ByteArray} {L : List SHold} (h : HtOf s L) (hs : s ≠ mkB [45]) : wordsS s = L.map fun x => mkB (htOne x) := by
  have e := ht_words h.2 (h.ne hs)
  rw [words_full, e]
  intro x hx
  rw [e] at hx
  obtain ⟨y, _, rfl⟩ := List.mem_map.1 hx
  rw [mkB_size]
  have := htOne_ne y
  intro h0
  exact this (List.eq_nil_of_length_eq_zero h0)
theorem rh_badW {s y : ByteArray} {k : Nat} (hs : s ≠ mkB [45]) (hy : (wordsS s)[k]? = some y) (h : okW y = false) : rhR s = ([], false) := rhR_no fun L hL => by
  rw [hL.words hs, List.getElem?_map] at hy
  cases hx : L[k]? with
  | none => rw [hx] at hy; cases hy
  | some x =>
    rw [hx] at hy
    simp only [Option.map_some, Option.some.injEq] at hy
    subst hy
    rw [(rdW_one hL.1 (List.mem_of_getElem? hx)).1] at h
    cases h
theorem rh_endW {s : ByteArray} (hs : s ≠ mkB [45]) {M : List SHold} (h : (wordsS s).map rdW = M) : rhR s = if vhs M = true ∧ htB M = s then (M, true) else ([], false) := by
  by_cases hv : vhs M = true ∧ htB M = s
  · rw [if_pos hv]; exact rhR_of hv
  · rw [if_neg hv]
    refine rhR_no fun L hL => hv ?_
    have e : M = L := by
      rw [← h, hL.words hs, List.map_map]
      conv => rhs; rw [← List.map_id L]
      exact List.map_congr_left fun x hx => (rdW_one hL.1 hx).2
    rw [e]
    exact hL
end Go.Proofs.YtcoaldhmofdfgaaDoor
