/-
  Plain law of added, found, dropped fixtures and free addresses.
-/
import Derived.Test.YtckenipmebeopaaUniLaw
import Derived.Test.YtckenipmebeopaaAddFixture
import Derived.Test.YtckenipmebeopaaFreeAddress
import Derived.Test.YtckenipmebeopaaShared
namespace Go.Proofs.Ytckenipmebeopaa
open Go.RowKit

theorem bl_tri : ∀ a b : List UInt8, Op.bytesLess a b = false → a ≠ b → Op.bytesLess b a = true
  | [], [], _, h => absurd rfl h
  | [], _ :: _, h, _ => by simp [Op.bytesLess] at h
  | _ :: _, [], _, _ => by simp [Op.bytesLess]
  | a :: x, b :: y, h, hn => by
    simp only [Op.bytesLess, Bool.or_eq_false_iff, Bool.and_eq_false_iff, decide_eq_false_iff_not, beq_eq_false_iff_ne] at h
    simp only [Op.bytesLess, Bool.or_eq_true, Bool.and_eq_true, decide_eq_true_eq, beq_iff_eq]
    by_cases e : a = b
    · subst e
      right
      refine ⟨rfl, bl_tri x y ?_ (fun e => hn (by rw [e]))⟩
      rcases h.2 with h | h
      · exact absurd rfl h
      · exact h
    · left
      have h1 := h.1
      rw [UInt8.lt_iff_toNat_lt] at h1 ⊢
      have : a.toNat ≠ b.toNat := fun q => e (UInt8.toNat_inj.1 q)
      omega
section
variable {L : List SFixture} {f : SFixture}
theorem vfs_mk (hl : L.length ≤ 16) (hv : ∀ (i : Nat) (x : SFixture), L[i]? = some x → vfB x = true) (hr : ∀ (i : Nat) (x y : SFixture), L[i + 1]? = some x → L[i]? = some y → ltF y x = true) (hs : ∀ (i j : Nat) (x y : SFixture), j < i → L[i]? = some x → L[j]? = some y → shF y x ≤ 0) : vfs L = true := by
  unfold vfs
  rw [Bool.and_eq_true]
  refine ⟨by simpa using hl, ?_⟩
  rw [List.all_eq_true]
  intro i hi
  have hil := List.mem_range.1 hi
  have hx : L[i]? = some L[i] := List.getElem?_eq_getElem hil
  unfold vfsAt
  rw [Bool.and_eq_true]
  refine ⟨?_, ?_⟩
  · cases i with
    | zero => exact okAt_first hx (hv 0 _ hx)
    | succ j =>
      have hy : L[j]? = some (L[j]'(by omega)) := List.getElem?_eq_getElem (by omega)
      exact okAt_next hx hy (hv _ _ hx) (hr j _ _ hx hy)
  · rw [List.all_eq_true]
    intro j hj
    have hji := List.mem_range.1 hj
    have hy : L[j]? = some (L[j]'(by omega)) := List.getElem?_eq_getElem (by omega)
    unfold noSh
    rw [hy, hx]
    exact decide_eq_true (hs i j _ _ hji hx hy)
theorem posF_le : posF L f ≤ L.length := List.findIdx_le_length
theorem addFL_lo {i : Nat} (h : i < posF L f) : (addFL L f)[i]? = L[i]? := by
  have := posF_le (L := L) (f := f)
  unfold addFL
  rw [List.getElem?_append_left (by rw [List.length_take]; omega), List.getElem?_take, if_pos h]
theorem addFL_mid : (addFL L f)[posF L f]? = some f := by
  have := posF_le (L := L) (f := f)
  unfold addFL
  rw [List.getElem?_append_right (by rw [List.length_take]; omega), List.length_take, show posF L f - min (posF L f) L.length = 0 by omega, List.getElem?_cons_zero]
theorem addFL_hi {i : Nat} (h : posF L f ≤ i) : (addFL L f)[i + 1]? = L[i]? := by
  have := posF_le (L := L) (f := f)
  unfold addFL
  rw [List.getElem?_append_right (by rw [List.length_take]; omega), List.length_take, show i + 1 - min (posF L f) L.length = i - posF L f + 1 by omega, List.getElem?_cons_succ, List.getElem?_drop]
  congr 1
  omega
theorem pos_bef {i : Nat} {x : SFixture} (h : i < posF L f) (hx : L[i]? = some x) : befF f x = true := by
  have h1 := List.not_of_lt_findIdx (p := fun x => !befF f x) (xs := L) (i := i) h
  obtain ⟨hi, rfl⟩ := List.getElem?_eq_some_iff.1 hx
  simpa using h1
theorem pos_not {x : SFixture} (hx : L[posF L f]? = some x) : befF f x = false := by
  obtain ⟨hi, rfl⟩ := List.getElem?_eq_some_iff.1 hx
  have h1 := List.findIdx_getElem (p := fun x => !befF f x) (xs := L) (w := hi)
  have h2 : (!befF f (L[posF L f])) = true := h1
  simpa using h2
/-- What AddFixture gives, when it adds. -/
theorem addFR_ok (h : (addFR L f).2 = 0) : vfs L = true ∧ vfB f = true ∧ hitF2 L f = false ∧ L.any (hitSh f) = false ∧ L.length < 16 ∧ addFR L f = (addFL L f, 0) := by
  cases hv : vfs L
  · exfalso; revert h; unfold addFR; rw [if_pos hv]; simp
  cases hf : vfB f
  · exfalso; revert h; unfold addFR; rw [if_neg (by rw [hv]; simp), if_pos hf]; simp
  cases hh : hitF2 L f
  case true => exfalso; revert h; unfold addFR; rw [if_neg (by rw [hv]; simp), if_neg (by rw [hf]; simp), if_pos hh]; simp
  cases ha : L.any (hitSh f)
  case true => exfalso; revert h; unfold addFR; rw [if_neg (by rw [hv]; simp), if_neg (by rw [hf]; simp), if_neg (by rw [hh]; simp), if_pos ha]; simp
  by_cases hl : L.length = 16
  · exfalso; revert h; unfold addFR; rw [if_neg (by rw [hv]; simp), if_neg (by rw [hf]; simp), if_neg (by rw [hh]; simp), if_neg (by rw [ha]; simp), if_pos hl]; simp
  · have := vfs_len hv
    refine ⟨rfl, rfl, rfl, rfl, by omega, ?_⟩
    unfold addFR
    rw [if_neg (by rw [hv]; simp), if_neg (by rw [hf]; simp), if_neg (by rw [hh]; simp), if_neg (by rw [ha]; simp), if_neg hl]
theorem add_apart (ha : L.any (hitSh f) = false) {x : SFixture} (hx : x ∈ L) : shF x f = 0 := by
  rw [List.any_eq_false] at ha
  exact hitSh_comm0.1 (by simpa using ha x hx)
theorem vfs_add (hv : vfs L = true) (hf : vfB f = true) (hh : hitF2 L f = false) (ha : L.any (hitSh f) = false) (hl : L.length < 16) : vfs (addFL L f) = true := by
  have hp := posF_le (L := L) (f := f)
  have spot : ∀ (i : Nat) (x : SFixture), (addFL L f)[i]? = some x → (i < posF L f ∧ L[i]? = some x) ∨ (i = posF L f ∧ x = f) ∨ (∃ j, i = j + 1 ∧ posF L f ≤ j ∧ L[j]? = some x) := by
    intro i x hx
    rcases Nat.lt_trichotomy i (posF L f) with h | h | h
    · rw [addFL_lo h] at hx; exact .inl ⟨h, hx⟩
    · subst h; rw [addFL_mid] at hx; cases hx; exact .inr (.inl ⟨rfl, rfl⟩)
    · obtain ⟨j, rfl⟩ : ∃ j, i = j + 1 := ⟨i - 1, by omega⟩
      rw [addFL_hi (by omega)] at hx
      exact .inr (.inr ⟨j, rfl, by omega, hx⟩)
  refine vfs_mk (by rw [addFL_len]; omega) (fun i x hx => ?_) (fun i x y hx hy => ?_) (fun i j x y hji hx hy => ?_)
  · rcases spot i x hx with ⟨_, h⟩ | ⟨_, rfl⟩ | ⟨j, _, _, h⟩
    · exact vfs_at hv h
    · exact hf
    · exact vfs_at hv h
  · rcases spot i y hy with ⟨h1, h2⟩ | ⟨h1, h2⟩ | ⟨j, h1, h2, h3⟩
    · rcases spot (i + 1) x hx with ⟨k1, k2⟩ | ⟨k1, k2⟩ | ⟨k, k1, k2, k3⟩
      · exact vfs_lt hv h2 k2 (by omega)
      · subst k2
        have := pos_bef h1 h2
        exact this
      · omega
    · subst h2
      rcases spot (i + 1) x hx with ⟨k1, k2⟩ | ⟨k1, k2⟩ | ⟨k, k1, k2, k3⟩
      · omega
      · omega
      · have hk : k = posF L y := by omega
        subst hk
        have hb := pos_not k3
        have hs : sameF y x = false := by
          unfold hitF2 at hh
          rw [k3] at hh
          exact hh
        unfold sameF at hs
        unfold befF ltS at hb
        rw [beq_eq_false_iff_ne] at hs
        exact bl_tri _ _ hb hs
    · rcases spot (i + 1) x hx with ⟨k1, k2⟩ | ⟨k1, k2⟩ | ⟨k, k1, k2, k3⟩
      · omega
      · omega
      · exact vfs_lt hv h3 k3 (by omega)
  · rcases spot j y hy with ⟨h1, h2⟩ | ⟨h1, h2⟩ | ⟨k, h1, h2, h3⟩ <;> rcases spot i x hx with ⟨k1, k2⟩ | ⟨k1, k2⟩ | ⟨m, k1, k2, k3⟩
    · exact vfs_apart hv k2 h2 hji
    · subst k2
      have := add_apart ha (List.mem_of_getElem? h2)
      omega
    · exact vfs_apart hv k3 h2 (by omega)
    · omega
    · omega
    · subst h2
      have := add_apart ha (List.mem_of_getElem? k3)
      rw [shF_comm]
      omega
    · omega
    · omega
    · exact vfs_apart hv k3 h3 (by omega)
/-- It is found at each of its addresses. -/
theorem add_found (hn : vfs (addFL L f) = true) (hf : vfB f = true) {d : Int} (h0 : 0 ≤ d) (h1 : d < f.Width) : fixtureAtR (addFL L f) f.Universe (f.Address + d) = ((posF L f : Int), 0) := by
  have hb := vfB_bd hf
  have hx : (addFL L f)[posF L f]? = some f := addFL_mid
  have hit : hitF f.Universe (f.Address + d) f = true := hitF_iff.2 ⟨rfl, by omega, by omega⟩
  have hidx : (addFL L f).findIdx? (hitF f.Universe (f.Address + d)) = some (posF L f) := by
    rw [List.findIdx?_eq_some_iff_getElem]
    obtain ⟨hk, e⟩ := List.getElem?_eq_some_iff.1 hx
    refine ⟨hk, by rw [e]; exact hit, fun j hj => ?_⟩
    intro hh
    have hy : (addFL L f)[j]? = some ((addFL L f)[j]'(by omega)) := List.getElem?_eq_getElem (by omega)
    have h2 := vfs_apart hn hx hy hj
    have h3 := hit_share hh hit
    omega
  unfold fixtureAtR
  rw [if_neg (by rw [hn]; simp), if_neg (by rw [inB_mk ⟨hb.1, hb.2.1⟩]; simp), if_neg (by rw [inB_mk ⟨by omega, by omega⟩]; simp), hidx]
/-- Dropping it gives the list back. -/
theorem add_drop (hn : vfs (addFL L f) = true) : dropR (addFL L f) f.Name = (L, 0) := by
  have hx : (addFL L f)[posF L f]? = some f := addFL_mid
  have hme : nmP f.Name f = true := by unfold nmP; simp
  have hany : (addFL L f).any (nmP f.Name) = true := List.any_eq_true.2 ⟨f, List.mem_of_getElem? hx, hme⟩
  have only : ∀ j y, (addFL L f)[j]? = some y → nmP f.Name y = true → j = posF L f := fun j y hy py => vfs_name hn hy hx py hme
  have he := filter_erase hx hme only
  unfold dropR
  rw [if_neg (by rw [hn]; simp), if_neg (by rw [hany]; simp), ← he]
  have hp := posF_le (L := L) (f := f)
  have : (addFL L f).eraseIdx (posF L f) = L := by
    unfold addFL
    rw [List.eraseIdx_append_of_length_le (by rw [List.length_take]; omega), List.length_take, show posF L f - min (posF L f) L.length = 0 by omega, List.eraseIdx_cons_zero, List.take_append_drop]
  rw [this]
/-- A free address is free. -/
theorem freeGo_ok {u wd : Int} : ∀ (n : Nat) (a : Int), 1 ≤ a → (freeGo L u wd n a).2 = 0 → 1 ≤ (freeGo L u wd n a).1 ∧ (freeGo L u wd n a).1 + wd ≤ 513 ∧ L.any (hitSh (addrF u (freeGo L u wd n a).1 wd)) = false
  | 0, a, _, h => by simp [freeGo] at h
  | n + 1, a, ha, h => by
    by_cases hw : a + wd ≤ 513
    · cases hl : L.any (hitSh (addrF u a wd))
      · rw [freeGo_free hw hl]
        exact ⟨ha, hw, hl⟩
      · rw [freeGo_hit hw hl] at h ⊢
        exact freeGo_ok n (a + 1) (by omega) h
    · rw [freeGo_end hw] at h
      simp at h
theorem freeGo_bad {u wd : Int} : ∀ (n : Nat) (a : Int), ¬ (freeGo L u wd n a).2 = 0 → (freeGo L u wd n a).1 = 0
  | 0, _, _ => rfl
  | n + 1, a, h => by
    by_cases hw : a + wd ≤ 513
    · cases hl : L.any (hitSh (addrF u a wd))
      · rw [freeGo_free hw hl] at h; exact absurd rfl h
      · rw [freeGo_hit hw hl] at h ⊢
        exact freeGo_bad n (a + 1) h
    · rw [freeGo_end hw]
def newName : ByteArray := ⟨#[110, 101, 119]⟩
theorem shF_name {u a wd : Int} {x : SFixture} : shF x ⟨newName, u, a, wd⟩ = shF x (addrF u a wd) := rfl
theorem freeR_ok {u wd : Int} (h : (freeR L u wd).2 = 0) : vfs L = true ∧ vfB ⟨newName, u, (freeR L u wd).1, wd⟩ = true ∧ ∀ x ∈ L, shR x ⟨newName, u, (freeR L u wd).1, wd⟩ = (0, 0) := by
  cases hv : vfs L
  · exfalso; revert h; unfold freeR; rw [if_pos hv]; simp
  cases hu : inB u 1 8
  · exfalso; revert h; unfold freeR; rw [if_neg (by rw [hv]; simp), if_pos hu]; simp
  cases hw : inB wd 1 64
  · exfalso; revert h; unfold freeR; rw [if_neg (by rw [hv]; simp), if_neg (by rw [hu]; simp), if_pos hw]; simp
  have e : freeR L u wd = freeGo L u wd 513 1 := by unfold freeR; rw [if_neg (by rw [hv]; simp), if_neg (by rw [hu]; simp), if_neg (by rw [hw]; simp)]
  rw [e] at h ⊢
  obtain ⟨h1, h2, h3⟩ := freeGo_ok 513 1 (by omega) h
  obtain ⟨a, ha⟩ : ∃ a, (freeGo L u wd 513 1).1 = a := ⟨_, rfl⟩
  rw [ha] at h1 h2 h3 ⊢
  have hval : vfB ⟨newName, u, a, wd⟩ = true := by
    unfold vfB
    simp only [Bool.and_eq_true]
    exact ⟨⟨⟨by decide, hu⟩, hw⟩, inB_mk ⟨h1, by omega⟩⟩
  refine ⟨rfl, hval, fun x hx => ?_⟩
  obtain ⟨i, hi⟩ := List.mem_iff_getElem?.1 hx
  unfold shR
  rw [vfs_at hv hi, hval]
  simp only [Bool.and_self, if_true, Prod.mk.injEq, and_true]
  rw [shF_name]
  exact add_apart (L := L) h3 hx
theorem freeR_bad {u wd : Int} (h : ¬ (freeR L u wd).2 = 0) : (freeR L u wd).1 = 0 := by
  unfold freeR at h ⊢
  split
  · rfl
  · split
    · rfl
    · split
      · rfl
      · rename_i a b c
        rw [if_neg a, if_neg b, if_neg c] at h
        exact freeGo_bad _ _ h
theorem add_shared (hv : vfs L = true) (hf : vfB f = true) (ha : L.any (hitSh f) = false) {x : SFixture} (hx : x ∈ L) : shR x f = (0, 0) := by
  obtain ⟨i, hi⟩ := List.mem_iff_getElem?.1 hx
  unfold shR
  rw [vfs_at hv hi, hf, add_apart ha hx]
  rfl
end
end Go.Proofs.Ytckenipmebeopaa
