/-
  Plain law of a player that goes on for two spans of time: the same as for both together.
-/
import Derived.Test.YtecakcgkibemaaaTickM
import Derived.Test.YtecakcgkibemaaaLevM
import Derived.Test.YtecakcgkibemaaaNextCue
import Derived.Test.YtecakcgkibemaaaLvls
import Derived.Test.YtecakcgkibemaaaSeek
namespace Go.Proofs.Ytecakcgkibemaaa
open Go.RowKit

theorem filter_split {a b c : Int} (hab : a ≤ b) (hbc : b ≤ c) : ∀ L : List SCue, L.Pairwise (fun x y => x.Time ≤ y.Time) → L.filter (inT a c) = L.filter (inT a b) ++ L.filter (inT b c)
  | [], _ => rfl
  | x :: L, h => by
    rw [List.pairwise_cons] at h
    have ih := filter_split hab hbc L h.2
    by_cases h1 : x.Time < b
    · have e1 : inT b c x = false := by unfold inT; rw [Bool.and_eq_false_iff]; left; rw [decide_eq_false_iff_not]; omega
      have e2 : inT a c x = inT a b x := by
        unfold inT
        rw [show decide (x.Time < c) = true from decide_eq_true (by omega), show decide (x.Time < b) = true from decide_eq_true h1]
      rw [List.filter_cons, List.filter_cons, List.filter_cons, e1, e2]
      cases inT a b x <;> simp [ih]
    · have e : L.filter (inT a b) = [] := List.filter_eq_nil_iff.2 fun y hy => by
        have := h.1 y hy
        unfold inT
        rw [show decide (y.Time < b) = false from decide_eq_false (by omega)]
        simp
      have e1 : inT a b x = false := by unfold inT; rw [Bool.and_eq_false_iff]; right; rw [decide_eq_false_iff_not]; exact h1
      have e2 : inT a c x = inT b c x := by
        unfold inT
        rw [show decide (a ≤ x.Time) = true from decide_eq_true (by omega), show decide (b ≤ x.Time) = true from decide_eq_true (by omega)]
      rw [List.filter_cons, List.filter_cons, List.filter_cons, e, e1, e2, ih, e]
      simp
section
variable {L : List SCue}
theorem pw_of (h : vcus L = true) : L.Pairwise (fun x y => x.Time ≤ y.Time) := by
  rw [List.pairwise_iff_getElem]
  intro i j hi hj hij
  exact vcus_rises h (List.getElem?_eq_getElem hi) (List.getElem?_eq_getElem hj) hij
theorem idsB_split (h : vcus L = true) {a b c : Int} (hab : a ≤ b) (hbc : b ≤ c) : idsB L a c = idsB L a b ++ idsB L b c := by
  unfold idsB
  rw [filter_split hab hbc L (pw_of h), List.map_append]
theorem tick_at {t x : Int} (hv : vplB L t 1000 = true) (h0 : 0 ≤ x) (h1 : x ≤ 600000) :
    tickR L t 1000 true x = if endL L ≤ t + x then (⟨L, endL L, 1000, false, 0⟩, idsB L t 7200001) else (⟨L, t + x, 1000, true, 0⟩, idsB L t (t + x)) := by
  unfold tickR
  rw [if_neg (by rw [hv]; simp), if_neg (by rw [inB_mk ⟨h0, h1⟩]; simp), if_neg (by simp), show x * 1000 / 1000 = x by omega]
theorem tick_no {t x : Int} (hv : vplB L t 1000 = true) (h0 : 0 ≤ x) (h1 : x ≤ 600000) : tickR L t 1000 false x = (⟨L, t, 1000, false, 0⟩, []) := by
  unfold tickR
  rw [if_neg (by rw [hv]; simp), if_neg (by rw [inB_mk ⟨h0, h1⟩]; simp), if_pos rfl]
theorem vpl_mk {t : Int} (hv : vcus L = true) (h0 : 0 ≤ t) (h1 : t ≤ endL L) : vplB L t 1000 = true := by
  unfold vplB
  rw [hv, inB_mk ⟨h0, h1⟩]
  rfl
theorem ticks {t x y : Int} (hv : vplB L t 1000 = true) (hx0 : 0 ≤ x) (hx1 : x < 6000) (hy0 : 0 ≤ y) (hy1 : y < 6000) :
    ∃ (t1 t2 : Int) (p1 p2 : Bool) (F1 F2 : List ByteArray), tickR L t 1000 true x = (⟨L, t1, 1000, p1, 0⟩, F1) ∧ tickR L t1 1000 p1 y = (⟨L, t2, 1000, p2, 0⟩, F2) ∧ tickR L t 1000 true (x + y) = (⟨L, t2, 1000, p2, 0⟩, F1 ++ F2) ∧ vplB L t1 1000 = true ∧ vplB L t2 1000 = true := by
  obtain ⟨hc, ht0, ht1, -, -, he⟩ := vplB_bd hv
  rw [tick_at hv hx0 (by omega), tick_at hv (show 0 ≤ x + y by omega) (by omega)]
  have hE : vplB L (endL L) 1000 = true := vpl_mk hc (by omega) (Int.le_refl _)
  by_cases h1 : endL L ≤ t + x
  · refine ⟨endL L, endL L, false, false, idsB L t 7200001, [], ?_, tick_no hE hy0 (by omega), ?_, hE, hE⟩
    · rw [if_pos h1]
    · rw [if_pos (by omega), List.append_nil]
  · have h2 : vplB L (t + x) 1000 = true := vpl_mk hc (by omega) (by omega)
    rw [if_neg h1]
    by_cases h3 : endL L ≤ t + (x + y)
    · refine ⟨t + x, endL L, true, false, idsB L t (t + x), idsB L (t + x) 7200001, rfl, ?_, ?_, h2, hE⟩
      · rw [tick_at h2 hy0 (by omega), if_pos (by omega)]
      · rw [if_pos h3, idsB_split hc (show t ≤ t + x by omega) (show t + x ≤ 7200001 by omega)]
    · refine ⟨t + x, t + (x + y), true, true, idsB L t (t + x), idsB L (t + x) (t + (x + y)), rfl, ?_, ?_, h2, vpl_mk hc (by omega) (by omega)⟩
      · rw [tick_at h2 hy0 (by omega), if_neg (by omega), Int.add_assoc]
      · rw [if_neg h3, idsB_split hc (show t ≤ t + x by omega) (show t + x ≤ t + (x + y) by omega)]
theorem seek_at {t x : Int} {p : Bool} (hv : vplB L t 1000 = true) (h0 : 0 ≤ x) (h1 : x ≤ endL L) : seekR L t 1000 p x = ⟨L, x, 1000, p, 0⟩ := by
  unfold seekR
  rw [if_neg (by rw [hv]; simp), if_neg (by rw [inB_mk ⟨h0, h1⟩]; simp)]
theorem lvs_eq {t : Int} (hv : vplB L t 1000 = true) : lvsR L t 1000 = (lvsL L t, 0) := by
  unfold lvsR
  rw [if_neg (by rw [hv]; simp)]
/-- What the next cue is: none, or the first that does not begin earlier. -/
theorem nc_cases {t : Int} (hv : vplB L t 1000 = true) : ncR L t 1000 = (0, 3) ∨ ∃ (k : Nat) (x : SCue), ncR L t 1000 = ((k : Int), 0) ∧ L[k]? = some x ∧ t ≤ x.Time ∧ ∀ j y, k = j + 1 → L[j]? = some y → y.Time < t := by
  unfold ncR
  rw [if_pos hv]
  cases h : L.findIdx? (geT t) with
  | none =>
    left
    have : idxOf (geT t) L = -1 := by unfold idxOf; rw [h]
    rw [this, if_pos (by omega)]
  | some k =>
    right
    have e : idxOf (geT t) L = k := by unfold idxOf; rw [h]
    rw [List.findIdx?_eq_some_iff_getElem] at h
    obtain ⟨hk, hp, hn⟩ := h
    refine ⟨k, L[k], ?_, List.getElem?_eq_getElem hk, by simpa [geT] using hp, fun j y hj hy => ?_⟩
    · rw [e, if_neg (by omega)]
    · subst hj
      obtain ⟨hj, rfl⟩ := List.getElem?_eq_some_iff.1 hy
      have := hn j (by omega)
      simpa [geT] using this
end
end Go.Proofs.Ytecakcgkibemaaa
