/-
  Plain words: addresses given to widths, one behind the other.
-/
import Derived.Test.YthghcpgeddepnaaLevels
import Derived.Test.YthghcpgeddepnaaRowMem
namespace Go.Proofs.Ythghcpgeddepnaa
open Go.RowKit

/-- The first universe with room, or as many as there are. -/
def firstU (u : List Int) (w : Int) : Nat := u.findIdx (fun x => decide (x + w ≤ 512))
def pStep (s : List Int × List (List Int)) (w : Int) : List Int × List (List Int) := (s.1.set (firstU s.1 w) (s.1.getD (firstU s.1 w) 0 + w), s.2 ++ [[(firstU s.1 w : Int) + 1, s.1.getD (firstU s.1 w) 0 + 1]])
def pSt (L : List Int) : List Int × List (List Int) := L.foldl pStep (List.replicate 8 0, [])
def pRoom (L : List Int) (k : Nat) : Bool := match L[k]? with
  | some w => decide (firstU (pSt (L.take k)).1 w < 8)
  | none => true
def pOk (L : List Int) : Bool := (List.range L.length).all (pRoom L)
def patchR (L : List Int) : List (List Int) × Int := if wds L = false then ([], 2) else if pOk L = true then ((pSt L).2, 0) else ([], 5)
section
variable {L : List Int} {k : Nat} {x : Int}
theorem pSt_snoc (hx : L[k]? = some x) : pSt (L.take (k + 1)) = pStep (pSt (L.take k)) x := by
  unfold pSt
  rw [take_snoc hx, List.foldl_append]
  rfl
theorem firstU_eq {u : List Int} {w : Int} {j : Nat} (hj : j ≤ u.length) (ha : ∀ i y, i < j → u[i]? = some y → 512 < y + w) (hx : ∀ y, u[j]? = some y → y + w ≤ 512) : firstU u w = j := by
  unfold firstU
  rcases Nat.lt_or_ge j u.length with h | h
  · rw [List.findIdx_eq h]
    refine ⟨by simpa using hx _ (List.getElem?_eq_getElem h), fun i hi => ?_⟩
    have := ha i _ hi (List.getElem?_eq_getElem (by omega))
    simpa using this
  · have : j = u.length := by omega
    rw [this, List.findIdx_eq_length]
    intro y hy
    obtain ⟨i, hi⟩ := List.mem_iff_getElem?.1 hy
    have := ha i y (by have := (List.getElem?_eq_some_iff.1 hi).1; omega) hi
    simpa using this
/-- Eight universes, none more than full. -/
def UOk (u : List Int) : Prop := u.length = 8 ∧ ∀ x ∈ u, 0 ≤ x ∧ x ≤ 512
theorem uok_zero : UOk (List.replicate 8 0) := ⟨rfl, fun x hx => by rw [List.eq_of_mem_replicate hx]; decide⟩
theorem uok_step {s : List Int × List (List Int)} {w : Int} (h : UOk s.1) (hw : 0 ≤ w) : UOk (pStep s w).1 := by
  unfold pStep
  rcases Nat.lt_or_ge (firstU s.1 w) s.1.length with hl | hl
  · refine ⟨by simp [h.1], fun x hx => ?_⟩
    rcases List.mem_or_eq_of_mem_set hx with hx | rfl
    · exact h.2 x hx
    · have h1 := List.findIdx_getElem (p := fun x => decide (x + w ≤ 512)) (xs := s.1) (w := hl)
      have h2 := h.2 _ (List.getElem_mem hl)
      rw [decide_eq_true_eq] at h1
      rw [List.getD_eq_getElem?_getD, List.getElem?_eq_getElem hl, Option.getD_some]
      unfold firstU at h2 ⊢
      omega
  · simp only [List.set_eq_of_length_le hl]
    exact h
theorem uok_all (hw : wds L = true) : ∀ k, UOk (pSt (L.take k)).1
  | 0 => by simpa [pSt] using uok_zero
  | k + 1 => by
    cases hx : L[k]? with
    | none => rw [List.take_of_length_le (by have : L.length ≤ k := by simpa using hx
                                             omega), ← List.take_of_length_le (i := k) (l := L) (by simpa using hx)]; exact uok_all hw k
    | some x => rw [pSt_snoc hx]; exact uok_step (uok_all hw k) (by have := wds_at hw hx; omega)
theorem pSt_len (L : List Int) : (pSt L).2.length = L.length := by
  have h : ∀ (L : List Int) (s : List Int × List (List Int)), (L.foldl pStep s).2.length = s.2.length + L.length := by
    intro L
    induction L with
    | nil => intro s; simp
    | cons y L ih => intro s; rw [List.foldl_cons, ih]; simp [pStep]; omega
  have := h L (List.replicate 8 0, [])
  simpa [pSt] using this
theorem pSt_rows (L : List Int) : ∀ r ∈ (pSt L).2, r.length = 2 := by
  have h : ∀ (L : List Int) (s : List Int × List (List Int)), (∀ r ∈ s.2, r.length = 2) → ∀ r ∈ (L.foldl pStep s).2, r.length = 2 := by
    intro L
    induction L with
    | nil => intro s hs; exact hs
    | cons y L ih =>
      intro s hs
      rw [List.foldl_cons]
      refine ih _ (fun r hr => ?_)
      simp only [pStep, List.mem_append, List.mem_singleton] at hr
      rcases hr with hr | rfl
      · exact hs r hr
      · rfl
  exact h L _ (by simp)
theorem patchR_len (L : List Int) : (patchR L).1.length ≤ 512 := by
  unfold patchR
  split
  · simp
  · rename_i h
    split
    · rw [pSt_len]; have := (wds_all (L := L) (by simpa using h)).1; omega
    · simp
theorem patchR_two (L : List Int) : ∀ r ∈ (patchR L).1, r.length = 2 := by
  unfold patchR
  split
  · simp
  · split
    · exact pSt_rows L
    · simp
theorem patchR_rows (L : List Int) : ∀ r ∈ (patchR L).1, r.length ≤ 4194304 := fun r hr => by rw [patchR_two L r hr]; decide
theorem sumN_two {M : List (List Int)} (h : ∀ r ∈ M, r.length = 2) : sumN (M.map List.length) = 2 * M.length := by
  induction M with
  | nil => rfl
  | cons r M ih =>
    have h1 := h r (List.mem_cons_self ..)
    have h2 := ih (fun s hs => h s (List.mem_cons_of_mem _ hs))
    simp only [List.map_cons, sumN, List.foldr_cons, List.length_cons] at h2 ⊢
    omega
theorem patchR_sum (L : List Int) : sumN ((patchR L).1.map List.length) ≤ 4194304 := by
  rw [sumN_two (patchR_two L)]
  have := patchR_len L
  omega
theorem pOk_bad (hx : L[k]? = some x) (h : firstU (pSt (L.take k)).1 x = 8) : pOk L = false := by
  unfold pOk
  rw [List.all_eq_false]
  refine ⟨k, List.mem_range.2 (List.getElem?_eq_some_iff.1 hx).1, ?_⟩
  unfold pRoom
  rw [hx]
  simp [h]
theorem pOk_step (h : (List.range k).all (pRoom L) = true) (hx : L[k]? = some x) (hr : firstU (pSt (L.take k)).1 x < 8) : (List.range (k + 1)).all (pRoom L) = true := by
  rw [List.range_succ, List.all_append, h]
  simp [pRoom, hx, hr]
theorem pOk_done (h : (List.range k).all (pRoom L) = true) (hk : k = L.length) : pOk L = true := by unfold pOk; rw [← hk]; exact h
end
end Go.Proofs.Ythghcpgeddepnaa
