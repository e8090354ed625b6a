/-
  Walks: AddHold, by both texts.
-/
import Derived.Test.YtcoaldhmofdfgaaDoorShowOf
import Derived.Test.YtcoaldhmofdfgaaDoorInsertHold
import Derived.Deep.AppendLies
namespace Go.Proofs.YtcoaldhmofdfgaaDoor
open Go.RowKit

theorem own_low {w : World} {base base' : Nat} {e : TypeId} {size n : Nat} {v : Value} {xs : List Value} (h : w.ownsRow base e size v n xs) (hb : base' ≤ base) : w.ownsRow base' e size v n xs := by
  refine ⟨h.1, h.2.imp id ?_⟩
  rintro ⟨g, cap, cur, hv, hbg, rest⟩
  exact ⟨g, cap, cur, hv, Nat.le_trans hb hbg, rest⟩
def befH (s : Int) (x : SHold) : Bool := decide (x.At < s)
/-- Where a hold at s belongs. -/
def posH (L : List SHold) (s : Int) : Nat := L.findIdx (fun x => !befH s x)
theorem posH_eq {L : List SHold} {s : Int} {k : Nat} (hk : k ≤ L.length) (ha : (L.take k).all (befH s) = true) (hx : ∀ x, L[k]? = some x → befH s x = false) : posH L s = k := by
  have key : ∀ j x, j < k → L[j]? = some x → befH s x = true := fun j x hj hjx => List.all_eq_true.1 ha x (List.mem_iff_getElem?.2 ⟨j, by rw [List.getElem?_take, if_pos hj]; exact hjx⟩)
  unfold posH
  rcases Nat.lt_or_ge k L.length with hlt | hge
  · rw [List.findIdx_eq hlt]
    refine ⟨by simp [hx _ (List.getElem?_eq_getElem hlt)], fun j hj => ?_⟩
    simp [key j _ hj (List.getElem?_eq_getElem (by omega))]
  · have : k = L.length := by omega
    rw [this, List.findIdx_eq_length]
    intro x hm
    obtain ⟨j, hj⟩ := List.mem_iff_getElem?.1 hm
    simp [key j x (by have := (List.getElem?_eq_some_iff.1 hj).1; omega) hj]
def hitH (L : List SHold) (s : Int) : Bool := match L[posH L s]? with
  | some x => x.At == s
  | none => false
def addL (L : List SHold) (s len : Int) : List SHold := L.take (posH L s) ++ ⟨s, len⟩ :: L.drop (posH L s)
/-- What has been collected of the first k: the new hold stands among them, or not yet. -/
def DoneH (L : List SHold) (s len : Int) (k : Nat) (M : List SHold) : Bool → Prop
  | true => ∃ p, p < k ∧ (L.take p).all (befH s) = true ∧ (∀ y, L[p]? = some y → s < y.At) ∧ M = L.take p ++ ⟨s, len⟩ :: (L.take k).drop p
  | false => (L.take k).all (befH s) = true ∧ M = L.take k
noncomputable def addHR (L : List SHold) (r len : Int) : List SHold × Int := if vhs L = false then ([], 1) else if inB len 1 1800000 = false then ([], 2) else if inB r 0 40000000 = false then ([], 2) else
  if hitH L (showV L r) = true then ([], 6) else if L.length = 16 then ([], 5) else (addL L (showV L r) len, 0)
theorem addL_len (L : List SHold) (s len : Int) : (addL L s len).length = L.length + 1 := by
  unfold addL
  rw [List.length_append, List.length_cons, List.length_take, List.length_drop]
  omega
theorem addHR_len (L : List SHold) (r len : Int) : (addHR L r len).1.length ≤ 512 := by
  unfold addHR
  split
  · simp
  · rename_i h
    have h2 := vhs_len (L := L) (by simpa using h)
    repeat' split
    all_goals first
      | (simp only [addL_len]; omega)
      | simp

end Go.Proofs.YtcoaldhmofdfgaaDoor
