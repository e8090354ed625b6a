/-
  Plain law of a cue put to its place: the list stays valid.
-/
import Derived.Test.YtecakcgkibemaaaGreatDoorValidCues
namespace Go.Proofs.YtecakcgkibemaaaGreatDoor
open Go.RowKit

theorem bytes_total : ∀ a b : List UInt8, a ≠ b → Op.bytesLess a b = false → Op.bytesLess b a = true
  | [], [], h, _ => absurd rfl h
  | [], _ :: _, _, h => by simp [Op.bytesLess] at h
  | _ :: _, [], _, _ => rfl
  | x :: a, y :: b, h, h2 => by
    simp only [Op.bytesLess, Bool.or_eq_false_iff, decide_eq_false_iff_not, Bool.and_eq_false_iff, beq_eq_false_iff_ne] at h2
    simp only [Op.bytesLess, Bool.or_eq_true, decide_eq_true_eq, Bool.and_eq_true, beq_iff_eq]
    by_cases e : x = y
    · subst e
      right
      refine ⟨rfl, bytes_total a b (fun e => h (by rw [e])) ?_⟩
      rcases h2.2 with h3 | h3
      · exact absurd rfl h3
      · exact h3
    · left
      rw [UInt8.lt_iff_toNat_lt] at h2 ⊢
      have : x.toNat ≠ y.toNat := fun e2 => e (UInt8.toNat_inj.1 e2)
      omega
theorem ltS_total {a b : ByteArray} (h : a ≠ b) (h2 : ltS a b = false) : ltS b a = true := by
  unfold ltS at h2 ⊢
  refine bytes_total _ _ (fun e => h ?_) h2
  rw [ByteArray.toList_eq, ByteArray.toList_eq] at e
  exact ByteArray.ext (Array.toList_inj.1 e)
theorem ltCu_total {a b : SCue} (h : a.Id ≠ b.Id) (h2 : ltCu a b = false) : ltCu b a = true := by
  unfold ltCu at h2 ⊢
  simp only [Bool.or_eq_false_iff, decide_eq_false_iff_not, Bool.and_eq_false_iff, beq_eq_false_iff_ne] at h2
  simp only [Bool.or_eq_true, decide_eq_true_eq, Bool.and_eq_true, beq_iff_eq]
  by_cases e : a.Time = b.Time
  · right
    refine ⟨e.symm, ltS_total h ?_⟩
    rcases h2.2 with h3 | h3
    · exact absurd e h3
    · exact h3
  · left; omega
theorem nm_iff {s : ByteArray} {x : SCue} : nmC s x = true ↔ x.Id = s := by
  unfold nmC
  rw [beq_iff_eq]
  exact ⟨fun e => by rw [ByteArray.toList_eq, ByteArray.toList_eq] at e; exact ByteArray.ext (Array.toList_inj.1 e), fun e => by rw [e]⟩
theorem vcus_ids {L : List SCue} (h : vcus L = true) {i j : Nat} {x y : SCue} (hij : i < j) (hx : L[i]? = some x) (hy : L[j]? = some y) : x.Id ≠ y.Id := fun e => by
  have h2 : (L.take j).any (nmC y.Id) = true := by
    rw [List.any_eq_true]
    exact ⟨x, List.mem_of_getElem? (i := i) (by rw [List.getElem?_take, if_pos hij]; exact hx), nm_iff.2 e⟩
  rw [vcus_dup hy h2] at h
  cases h
theorem vcus_intro {L : List SCue} (hl : L.length ≤ 32) (hv : ∀ (i : Nat) (x : SCue), L[i]? = some x → vcuB x = true) (hr : ∀ (j : Nat) (x y : SCue), L[j + 1]? = some x → L[j]? = some y → ltCu y x = true) (hd : ∀ (i j : Nat) (x y : SCue), i < j → L[i]? = some x → L[j]? = some y → x.Id ≠ y.Id) : vcus L = true := by
  unfold vcus
  rw [Bool.and_eq_true, decide_eq_true_eq]
  refine ⟨hl, List.all_eq_true.2 fun i hi => ?_⟩
  rw [List.mem_range] at hi
  have hx := List.getElem?_eq_getElem hi
  unfold okC
  rw [Bool.and_eq_true]
  refine ⟨?_, ?_⟩
  · cases i with
    | zero => exact okAt_first hx (hv _ _ hx)
    | succ j =>
      have hy := List.getElem?_eq_getElem (l := L) (i := j) (by omega)
      exact okAt_next hx hy (hv _ _ hx) (hr j _ _ hx hy)
  · unfold dupC
    rw [hx]
    simp only [Bool.not_eq_true', List.any_eq_false]
    intro y hy hn
    obtain ⟨k, hk⟩ := List.getElem?_of_mem hy
    have hkl := (List.getElem?_eq_some_iff.1 hk).1
    simp only [List.length_take] at hkl
    rw [List.getElem?_take, if_pos (by omega)] at hk
    exact hd k i y _ (by omega) hk hx (nm_iff.1 hn)
def putL (L : List SCue) (c : SCue) (k : Nat) : List SCue := L.take k ++ c :: L.drop k
section
variable {L : List SCue} {c : SCue} {k : Nat}
theorem putL_len (hk : k ≤ L.length) : (putL L c k).length = L.length + 1 := by unfold putL; simp; omega
theorem putL_low {i : Nat} (hk : k ≤ L.length) (hi : i < k) : (putL L c k)[i]? = L[i]? := by
  unfold putL
  rw [List.getElem?_append_left (by rw [List.length_take]; omega), List.getElem?_take, if_pos hi]
theorem putL_here (hk : k ≤ L.length) : (putL L c k)[k]? = some c := by
  unfold putL
  rw [List.getElem?_append_right (by rw [List.length_take]; omega), List.length_take, show k - min k L.length = 0 by omega]
  rfl
theorem putL_high {i : Nat} (hk : k ≤ L.length) (hi : k ≤ i) : (putL L c k)[i + 1]? = L[i]? := by
  unfold putL
  rw [List.getElem?_append_right (by rw [List.length_take]; omega), List.length_take, show i + 1 - min k L.length = (i - k) + 1 by omega, List.getElem?_cons_succ, List.getElem?_drop, show k + (i - k) = i by omega]
/-- The cue put to its place. -/
theorem vcus_put (h : vcus L = true) (hl : L.length ≤ 31) (hc : vcuB c = true) (hn : L.any (nmC c.Id) = false) (hk : k ≤ L.length) (hlow : ∀ y : SCue, 0 < k → L[k - 1]? = some y → ltCu c y = false) (hhigh : ∀ y : SCue, L[k]? = some y → ltCu c y = true) : vcus (putL L c k) = true := by
  have hid : ∀ (i : Nat) (y : SCue), L[i]? = some y → y.Id ≠ c.Id := fun i y hy e => by
    rw [List.any_eq_false] at hn
    exact hn y (List.mem_of_getElem? hy) (nm_iff.2 e)
  refine vcus_intro (by rw [putL_len hk]; omega) (fun i x hx => ?_) (fun j x y hx hy => ?_) (fun i j x y hij hx hy => ?_)
  · rcases Nat.lt_trichotomy i k with h1 | rfl | h1
    · rw [putL_low hk h1] at hx; exact vcus_at h hx
    · rw [putL_here hk] at hx; cases hx; exact hc
    · obtain ⟨i, rfl⟩ : ∃ i', i = i' + 1 := ⟨i - 1, by omega⟩
      rw [putL_high hk (by omega)] at hx; exact vcus_at h hx
  · rcases Nat.lt_trichotomy (j + 1) k with h1 | h1 | h1
    · rw [putL_low hk h1] at hx
      rw [putL_low hk (by omega)] at hy
      exact chk_rel (vcus_chk h) hx hy
    · subst h1
      rw [putL_here hk] at hx
      rw [putL_low hk (by omega)] at hy
      cases hx
      have := hlow y (by omega) hy
      exact ltCu_total (fun e => hid j y hy e.symm) this
    · rw [putL_high hk (by omega)] at hx
      rcases Nat.lt_or_ge k j with h2 | h2
      · obtain ⟨j, rfl⟩ : ∃ i', j = i' + 1 := ⟨j - 1, by omega⟩
        rw [putL_high hk (by omega)] at hy
        exact chk_rel (vcus_chk h) hx hy
      · obtain rfl : j = k := by omega
        rw [putL_here hk] at hy
        cases hy
        exact hhigh x hx
  · have key : ∀ (i : Nat) (x : SCue), (putL L c k)[i]? = some x → (i < k ∧ L[i]? = some x) ∨ (i = k ∧ x = c) ∨ (k < i ∧ L[i - 1]? = some x) := fun i x hx => by
      rcases Nat.lt_trichotomy i k with h1 | rfl | h1
      · rw [putL_low hk h1] at hx; exact .inl ⟨h1, hx⟩
      · rw [putL_here hk] at hx; exact .inr (.inl ⟨rfl, (Option.some.inj hx).symm⟩)
      · obtain ⟨i, rfl⟩ : ∃ i', i = i' + 1 := ⟨i - 1, by omega⟩
        rw [putL_high hk (by omega)] at hx
        exact .inr (.inr ⟨h1, hx⟩)
    rcases key i x hx with ⟨a1, a2⟩ | ⟨a1, rfl⟩ | ⟨a1, a2⟩
    · rcases key j y hy with ⟨b1, b2⟩ | ⟨b1, rfl⟩ | ⟨b1, b2⟩
      · exact vcus_ids h hij a2 b2
      · exact hid i x a2
      · exact vcus_ids h (show i < j - 1 by omega) a2 b2
    · rcases key j y hy with ⟨b1, b2⟩ | ⟨b1, rfl⟩ | ⟨b1, b2⟩
      · omega
      · omega
      · exact fun e => hid _ y b2 e.symm
    · rcases key j y hy with ⟨b1, b2⟩ | ⟨b1, rfl⟩ | ⟨b1, b2⟩
      · omega
      · omega
      · exact vcus_ids h (show i - 1 < j - 1 by omega) a2 b2
end
end Go.Proofs.YtecakcgkibemaaaGreatDoor
