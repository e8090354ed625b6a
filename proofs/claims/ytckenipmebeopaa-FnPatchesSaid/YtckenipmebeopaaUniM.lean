/-
  Plain words: the levels of a universe.
-/
import Derived.Test.YtckenipmebeopaaLevels
import Derived.Test.YtckenipmebeopaaValidFixtures
import Derived.Test.YtckenipmebeopaaRowMem
namespace Go.Proofs.Ytckenipmebeopaa
open Go.RowKit

def spl (out : List Int) (a : Nat) (r : List Int) : List Int := out.take a ++ r ++ out.drop (a + r.length)
def uStep (u : Int) (out : List Int) (p : SFixture × List Int) : List Int := if p.1.Universe = u then spl out (p.1.Address - 1).toNat p.2 else out
def uSt (u : Int) (Z : List (SFixture × List Int)) : List Int := Z.foldl (uStep u) (List.replicate 512 0)
def fitB (p : SFixture × List Int) : Bool := ((p.2.length : Int) == p.1.Width) && lvs p.2
def uniR (L : List SFixture) (M : List (List Int)) (u : Int) : List Int × Int :=
  if vfs L = false then ([], 1) else if inB u 1 8 = false then ([], 2) else if M.length = L.length then (if (L.zip M).all fitB = true then (uSt u (L.zip M), 0) else ([], 2)) else ([], 2)
section
variable {L : List SFixture} {M : List (List Int)} {u : Int} {Z : List (SFixture × List Int)} {k : Nat}
theorem spl_nil (out : List Int) (a : Nat) : spl out a [] = out := by simp [spl]
theorem spl_len {out : List Int} {a : Nat} {r : List Int} (h : a + r.length ≤ out.length) : (spl out a r).length = out.length := by
  unfold spl
  rw [List.length_append, List.length_append, List.length_take, List.length_drop]
  omega
theorem spl_step {out : List Int} {a k : Nat} {r : List Int} {y : Int} (h : a + r.length ≤ out.length) (hy : r[k]? = some y) : (spl out a (r.take k)).set (a + k) y = spl out a (r.take (k + 1)) := by
  have hk := (List.getElem?_eq_some_iff.1 hy).1
  have hl : (r.take k).length = k := by rw [List.length_take]; omega
  have hl1 : (r.take (k + 1)).length = k + 1 := by rw [List.length_take]; omega
  have hta : (out.take a).length = a := by rw [List.length_take]; omega
  unfold spl
  rw [hl, hl1, take_snoc hy, List.append_assoc, List.set_append_right _ _ (by omega), hta, List.set_append_right _ _ (by omega), hl, show a + k - a - k = 0 by omega, List.drop_eq_getElem_cons (by omega), List.set_cons_zero, List.append_assoc, List.append_assoc, show a + k + 1 = a + (k + 1) by omega]
  rfl
theorem zip_at {x : SFixture} {r : List Int} (hx : L[k]? = some x) (hr : M[k]? = some r) : (L.zip M)[k]? = some (x, r) := by
  rw [List.getElem?_zip_eq_some]
  exact ⟨hx, hr⟩
theorem uSt_snoc {p : SFixture × List Int} (h : Z[k]? = some p) : uSt u (Z.take (k + 1)) = uStep u (uSt u (Z.take k)) p := by
  unfold uSt
  rw [take_snoc h, List.foldl_append]
  rfl
theorem uSt_len (hv : vfs L = true) (ha : (L.zip M).all fitB = true) (u : Int) : ∀ k, (uSt u ((L.zip M).take k)).length = 512
  | 0 => List.length_replicate
  | k + 1 => by
    cases hp : (L.zip M)[k]? with
    | none =>
      have hk : (L.zip M).length ≤ k := by simpa using hp
      rw [List.take_of_length_le (by omega), ← List.take_of_length_le hk]
      exact uSt_len hv ha u k
    | some p =>
      rw [uSt_snoc hp]
      have ih := uSt_len hv ha u k
      unfold uStep
      split
      · obtain ⟨x, r⟩ := p
        have h1 := all_at ha hp
        rw [List.getElem?_zip_eq_some] at hp
        have h2 := vfB_bd (vfs_at hv hp.1)
        simp only [fitB, Bool.and_eq_true, beq_iff_eq] at h1
        have h3 := h1.1
        show (spl (uSt u (List.take k (L.zip M))) (x.Address - 1).toNat r).length = 512
        simp only at h2
        rw [spl_len (by omega), ih]
      · exact ih
theorem uniR_len (L : List SFixture) (M : List (List Int)) (u : Int) : (uniR L M u).1.length ≤ 512 := by
  unfold uniR
  split
  · simp
  · rename_i h
    split
    · simp
    · split
      · split
        · rename_i h2
          have := uSt_len (L := L) (M := M) (by simpa using h) h2 u (L.zip M).length
          rw [List.take_of_length_le (Nat.le_refl _)] at this
          simp only; omega
        · simp
      · simp
end
end Go.Proofs.Ytckenipmebeopaa
