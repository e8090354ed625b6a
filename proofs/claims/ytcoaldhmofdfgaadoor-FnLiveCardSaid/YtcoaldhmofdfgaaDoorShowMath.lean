/-
  Plain: the time of a show at a real time. No program in sight.
-/
import Derived.Test.YtcoaldhmofdfgaaDoorRealOf
namespace Go.Proofs.YtcoaldhmofdfgaaDoor
open Go.RowKit

def cntL (L : List SHold) (t : Int) : Int := (L.map fun h => if h.At < t then h.Length else 0).sum
def lostL (L : List SHold) : Int := (L.map fun h => h.Length).sum
theorem realL_cnt (L : List SHold) (t : Int) : realL L t = t + cntL L t := by
  have : ∀ (L : List SHold) (r : Int), L.foldl (fun r h => if h.At < t then r + h.Length else r) r = r + cntL L t := by
    intro L
    induction L with
    | nil => intro r; simp [cntL]
    | cons y L ih =>
      intro r
      simp only [List.foldl_cons, ih, cntL, List.map_cons, List.sum_cons]
      split <;> omega
  exact this L t
theorem cntL_append (L M : List SHold) (t : Int) : cntL (L ++ M) t = cntL L t + cntL M t := by simp [cntL]
theorem lostL_snoc (L : List SHold) (x : SHold) : lostL (L ++ [x]) = lostL L + x.Length := by simp [lostL]
theorem cntL_none {L : List SHold} {t : Int} (h : ∀ x ∈ L, t ≤ x.At) : cntL L t = 0 := by
  induction L with
  | nil => rfl
  | cons y L ih =>
    have h1 := h y (by simp)
    have h2 := ih (fun x hx => h x (by simp [hx]))
    simp only [cntL, List.map_cons, List.sum_cons] at h2 ⊢
    rw [if_neg (by omega)]; omega
theorem cntL_all {L : List SHold} {t : Int} (h : ∀ x ∈ L, x.At < t) : cntL L t = lostL L := by
  induction L with
  | nil => rfl
  | cons y L ih =>
    have h1 := h y (by simp)
    have h2 := ih (fun x hx => h x (by simp [hx]))
    simp only [cntL, lostL, List.map_cons, List.sum_cons] at h2 ⊢
    rw [if_pos (by omega)]; omega
theorem cntL_mid {L : List SHold} {t : Int} (h : ∀ x ∈ L, 0 ≤ x.Length) : 0 ≤ cntL L t ∧ cntL L t ≤ lostL L := by
  induction L with
  | nil => simp [cntL, lostL]
  | cons y L ih =>
    have h1 := h y (by simp)
    have h2 := ih (fun x hx => h x (by simp [hx]))
    simp only [cntL, lostL, List.map_cons, List.sum_cons] at h2 ⊢
    split <;> omega
theorem cntL_mono {L : List SHold} (h : ∀ x ∈ L, 0 ≤ x.Length) {s t : Int} (hst : s ≤ t) : cntL L s ≤ cntL L t := by
  induction L with
  | nil => simp [cntL]
  | cons y L ih =>
    have h1 := h y (by simp)
    have h2 := ih (fun x hx => h x (by simp [hx]))
    simp only [cntL, List.map_cons, List.sum_cons] at h2 ⊢
    split <;> split <;> omega
theorem lostL_bd {L : List SHold} (h : ∀ x ∈ L, 1 ≤ x.Length ∧ x.Length ≤ 1800000) : 0 ≤ lostL L ∧ lostL L ≤ 1800000 * L.length := by
  induction L with
  | nil => simp [lostL]
  | cons y L ih =>
    have h1 := h y (by simp)
    have h2 := ih (fun x hx => h x (by simp [hx]))
    simp only [lostL, List.map_cons, List.sum_cons, List.length_cons] at h2 ⊢
    omega
/-- t is the time of a show at the real time r. -/
def IsShow (L : List SHold) (r t : Int) : Prop := 0 ≤ t ∧ t ≤ 7200000 ∧ realL L t ≤ r ∧ (t < 7200000 → r < realL L (t + 1))
theorem realL_mono {L : List SHold} (h : ∀ x ∈ L, 0 ≤ x.Length) {s t : Int} (hst : s ≤ t) : realL L s + (t - s) ≤ realL L t := by
  rw [realL_cnt, realL_cnt]
  have := cntL_mono h hst
  omega
theorem IsShow.unique {L : List SHold} (h : ∀ x ∈ L, 0 ≤ x.Length) {r s t : Int} (hs : IsShow L r s) (ht : IsShow L r t) : s = t := by
  obtain ⟨s0, s1, s2, s3⟩ := hs
  obtain ⟨t0, t1, t2, t3⟩ := ht
  by_cases h1 : s < t
  · have := realL_mono h (s := s + 1) (t := t) (by omega)
    have := s3 (by omega)
    omega
  by_cases h2 : t < s
  · have := realL_mono h (s := t + 1) (t := s) (by omega)
    have := t3 (by omega)
    omega
  omega
open Classical in
noncomputable def showV (L : List SHold) (r : Int) : Int := if h : ∃ t, IsShow L r t then Classical.choose h else 0
theorem showV_eq {L : List SHold} (hv : vhs L = true) {r t : Int} (h : IsShow L r t) : showV L r = t := by
  have he : ∃ t, IsShow L r t := ⟨t, h⟩
  unfold showV
  rw [dif_pos he]
  exact IsShow.unique (fun x hx => by have := vhs_mem hv hx; omega) (Classical.choose_spec he) h
def heldB (L : List SHold) (r t : Int) : Bool := L.any fun h => (h.At == t) && decide (r < realL L t + h.Length)
theorem vhs_next {L : List SHold} (hv : vhs L = true) {j : Nat} {x y : SHold} (hy : L[j + 1]? = some y) (hx : L[j]? = some x) : x.At < y.At := by
  simp only [vhs, Bool.and_eq_true] at hv
  have := chk_rel hv.2 hy hx
  simpa [ltH] using this
theorem vhs_rises {L : List SHold} (hv : vhs L = true) {i j : Nat} {x y : SHold} (hx : L[i]? = some x) (hy : L[j]? = some y) (hij : i < j) : x.At < y.At := by
  induction j generalizing y with
  | zero => omega
  | succ j ih =>
    have hj : j < L.length := by have := (List.getElem?_eq_some_iff.1 hy).1; omega
    have h1 := vhs_next hv hy (List.getElem?_eq_getElem hj)
    by_cases e : i = j
    · subst e
      rw [List.getElem?_eq_getElem hj] at hx
      cases hx
      exact h1
    · have := ih (List.getElem?_eq_getElem hj) (by omega)
      omega
/-- Of the first k, each has passed. -/
def Passed (L : List SHold) (r : Int) (k : Nat) : Prop := ∀ i x, i < k → L[i]? = some x → x.At ≤ r - lostL (L.take k)
theorem mem_take {L : List SHold} {k : Nat} {x : SHold} (h : x ∈ L.take k) : ∃ i, i < k ∧ L[i]? = some x := by
  obtain ⟨i, hi⟩ := List.mem_iff_getElem?.1 h
  rw [List.getElem?_take] at hi
  by_cases hik : i < k
  · rw [if_pos hik] at hi; exact ⟨i, hik, hi⟩
  · rw [if_neg hik] at hi; cases hi
theorem mem_drop {L : List SHold} {k : Nat} {x : SHold} (h : x ∈ L.drop k) : ∃ i, k ≤ i ∧ L[i]? = some x := by
  obtain ⟨i, hi⟩ := List.mem_iff_getElem?.1 h
  rw [List.getElem?_drop] at hi
  exact ⟨k + i, by omega, hi⟩
theorem cnt_split (L : List SHold) (k : Nat) (t : Int) : cntL L t = cntL (L.take k) t + cntL (L.drop k) t := by
  rw [← cntL_append, List.take_append_drop]
/-- The first loop has ended at k: no hold from k on begins before. -/
theorem isShow_end {L : List SHold} (hv : vhs L = true) {r : Int} {k : Nat} (hp : Passed L r k) (h0 : 0 ≤ r - lostL (L.take k)) (hk : ∀ x, L[k]? = some x → r - lostL (L.take k) ≤ x.At) :
    IsShow L r (min 7200000 (r - lostL (L.take k))) := by
  have hpos : ∀ x ∈ L, 0 ≤ x.Length := fun x hx => by have := vhs_mem hv hx; omega
  have htl : ∀ x ∈ L.take k, 0 ≤ x.Length := fun x hx => hpos x (List.mem_of_mem_take hx)
  have hdr : ∀ x ∈ L.drop k, r - lostL (L.take k) ≤ x.At := fun x hx => by
    obtain ⟨i, hi, hx2⟩ := mem_drop hx
    by_cases e : i = k
    · subst e; exact hk x hx2
    · have hkl : k < L.length := by have := (List.getElem?_eq_some_iff.1 hx2).1; omega
      have := vhs_rises hv (List.getElem?_eq_getElem hkl) hx2 (by omega)
      have := hk _ (List.getElem?_eq_getElem hkl)
      omega
  have hta : ∀ x ∈ L.take k, x.At ≤ r - lostL (L.take k) := fun x hx => by
    obtain ⟨i, hi, hx⟩ := mem_take hx
    exact hp i x hi hx
  have c1 := cntL_none (L := L.drop k) (t := min 7200000 (r - lostL (L.take k))) (fun x hx => by have := hdr x hx; omega)
  have c2 := cntL_mid (t := min 7200000 (r - lostL (L.take k))) htl
  refine ⟨by omega, by omega, ?_, fun hlt => ?_⟩
  · rw [realL_cnt, cnt_split L k, c1]; omega
  · have e : min 7200000 (r - lostL (L.take k)) = r - lostL (L.take k) := by omega
    rw [e, realL_cnt, cnt_split L k]
    have c3 := cntL_all (L := L.take k) (t := r - lostL (L.take k) + 1) (fun x hx => by have := hta x hx; omega)
    have c4 := cntL_mid (L := L.drop k) (t := r - lostL (L.take k) + 1) (fun x hx => hpos x (List.mem_of_mem_drop hx))
    omega
/-- Held at the k-th. -/
theorem real_at {L : List SHold} (hv : vhs L = true) {k : Nat} {x : SHold} (hx : L[k]? = some x) : realL L x.At = x.At + lostL (L.take k) := by
  have c1 := cntL_none (L := L.drop k) (t := x.At) (fun y hy => by
    obtain ⟨i, hi, hy2⟩ := mem_drop hy
    by_cases e : i = k
    · subst e; rw [hx] at hy2; cases hy2; omega
    · have := vhs_rises hv hx hy2 (by omega); omega)
  have c2 := cntL_all (L := L.take k) (t := x.At) (fun y hy => by
    obtain ⟨i, hi, hy⟩ := mem_take hy
    exact vhs_rises hv hy hx hi)
  rw [realL_cnt, cnt_split L k, c1, c2]; omega
theorem isShow_held {L : List SHold} (hv : vhs L = true) {r : Int} {k : Nat} {x : SHold} (hx : L[k]? = some x) (h1 : x.At < r - lostL (L.take k)) (h2 : r - lostL (L.take k) < x.At + x.Length) :
    IsShow L r x.At ∧ heldB L r x.At = true := by
  have hb := vhs_at hv hx
  have hr := real_at hv hx
  have hpos : ∀ y ∈ L, 0 ≤ y.Length := fun y hy => by have := vhs_mem hv hy; omega
  refine ⟨⟨by omega, by omega, by omega, fun _ => ?_⟩, ?_⟩
  · rw [realL_cnt, cnt_split L (k + 1)]
    have c3 := cntL_all (L := L.take (k + 1)) (t := x.At + 1) (fun y hy => by
      obtain ⟨i, hi, hy2⟩ := mem_take hy
      by_cases e : i = k
      · subst e; rw [hx] at hy2; cases hy2; omega
      · have := vhs_rises hv hy2 hx (by omega); omega)
    have c4 := cntL_mid (L := L.drop (k + 1)) (t := x.At + 1) (fun y hy => hpos y (List.mem_of_mem_drop hy))
    rw [take_snoc hx, lostL_snoc] at c3
    rw [take_snoc hx]
    omega
  · unfold heldB
    rw [List.any_eq_true]
    exact ⟨x, List.mem_of_getElem? hx, by simp; omega⟩
theorem passed_step {L : List SHold} {r : Int} {k : Nat} {x : SHold} (hv : vhs L = true) (hx : L[k]? = some x) (h : x.At + x.Length ≤ r - lostL (L.take k)) : Passed L r (k + 1) := by
  intro i y hi hy
  have e : lostL (L.take (k + 1)) = lostL (L.take k) + x.Length := by rw [take_snoc hx, lostL_snoc]
  by_cases hik : i = k
  · subst hik; rw [hx] at hy; cases hy; omega
  · have := vhs_rises hv hy hx (by omega); omega
theorem lost_take {L : List SHold} (hv : vhs L = true) (k : Nat) : 0 ≤ lostL (L.take k) ∧ lostL (L.take k) ≤ 28800000 := by
  have h1 := lostL_bd (L := L.take k) (fun x hx => by have := vhs_mem hv (List.mem_of_mem_take hx); omega)
  have h2 := vhs_len hv
  have h3 : (L.take k).length ≤ 16 := by simp; omega
  omega
noncomputable def showR (L : List SHold) (r : Int) : Int × Bool × Int :=
  if vhs L = false then (0, false, 1) else if inB r 0 40000000 = false then (0, false, 2) else (showV L r, heldB L r (showV L r), 0)
end Go.Proofs.YtcoaldhmofdfgaaDoor
