/-
  Walks: how long a player plays on, by both texts.
-/
import Derived.Test.YtecakcgkibemaaaPlayer
namespace Go.Proofs.Ytecakcgkibemaaa
open Go.RowKit

def remR (L : List SCue) (t r : Int) : Int × Int := if vplB L t r = true then (((endL L - t) * 1000 + r - 1) / r, 0) else (0, 1)
theorem vplB_bd {L : List SCue} {t r : Int} (h : vplB L t r = true) : vcus L = true ∧ 0 ≤ t ∧ t ≤ endL L ∧ 100 ≤ r ∧ r ≤ 4000 ∧ endL L ≤ 7200000 := by
  simp only [vplB, Bool.and_eq_true, inB_iff] at h
  have := endL_all h.1.1
  exact ⟨h.1.1, h.1.2.1, h.1.2.2, h.2.1, h.2.2, this.2⟩
theorem up_bd {a b : Int} (ha : 0 ≤ a) (ha1 : a ≤ 100000000000) (hb : 1 ≤ b) (hb1 : b ≤ 4000) : 0 ≤ (a + b - 1) / b ∧ (a + b - 1) / b ≤ 100000004000 := by
  refine ⟨Int.ediv_nonneg (by omega) (by omega), ?_⟩
  have := Int.ediv_le_self b (show 0 ≤ a + b - 1 by omega)
  omega

end Go.Proofs.Ytecakcgkibemaaa
