/-
  Walks: a player read from a text, by the reference.
-/
import Derived.Test.YtecakcgkibemaaaGreatDoorPlM
import Derived.Test.YtecakcgkibemaaaGreatDoorRdCu2
import Derived.Deep.CutRange
import Derived.Deep.DeepCutAuto
namespace Go.Proofs.YtecakcgkibemaaaGreatDoor
open Go.RowKit

def rplE (w : World) (R : SPr × Bool) (e : Ending) (w' : World) : Prop := ∃ A c, e = .returned (.tuple #[.agg #[.slice A R.1.L.length c, .int .i64 R.1.t, .int .i64 R.1.r, .bool R.1.p], .bool R.2]) ∧ G w w' ∧ w'.ownsRow w.heap.size 49 6 (.slice A R.1.L.length c) R.1.L.length (R.1.L.flatMap cCue)
theorem rpl_nil {w w' : World} {R : SPr × Bool} (h : R = (prZ, false)) (hg : G w w') : rplE w R (.returned (.tuple #[.agg #[.slice none 0 0, .int .i64 0, .int .i64 0, .bool false], .bool false])) w' := by
  subst h
  exact ⟨none, 0, rfl, hg, World.ownsRow_nil _ _ _ _⟩
theorem rcuR_wf (y : ByteArray) : WfCue (rcuR y).1 := by
  cases h : (rcuR y).2
  · have : rcuR y = (cuZ, false) := by
      by_cases e : ∃ x, CuOf y x
      · obtain ⟨x, hx⟩ := e
        rw [rcuR_of hx] at h
        cases h
      · exact rcuR_no (fun x hx => e ⟨x, hx⟩)
    rw [this]
    exact ⟨by show (0 : Nat) ≤ maxLen; omega, by show (0 : Nat) ≤ maxLen; omega⟩
  · have := vcuB_nm (rcuR_yes h).1
    exact ⟨by unfold maxLen; omega, by unfold maxLen; omega⟩
theorem ptail_step {P : List ByteArray} {j : Nat} {y : ByteArray} (hy : P[j]? = some y) (h1 : 1 ≤ j) : (P.take (j + 1)).drop 1 = (P.take j).drop 1 ++ [y] := by
  have hj : j < P.length := by
    rcases Nat.lt_or_ge j P.length with h | h
    · exact h
    · rw [List.getElem?_eq_none h] at hy; cases hy
  rw [List.take_add_one, hy, Option.toList_some, List.drop_append_of_le_length (by rw [List.length_take]; omega)]
theorem ptail_one (P : List ByteArray) : (P.take 1).drop 1 = [] := by
  cases P <;> simp
theorem alloc2_news (w : World) (o : Obj) (cs : List Value) (T : Nat) : ∀ j u, cs[j]? = some u → ((w.alloc o).alloc (.cells cs.toArray T)).cell? ((⟨w.heap.size + 1, 0, none⟩ : Addr).add j) = some u := fun j u h => by
  have := block_news (w.alloc o) cs T j u h
  rwa [show (w.alloc o).heap.size = w.heap.size + 1 by simp] at this
theorem rpl_own {w w' : World} {R : SPr × Bool} {M : List SCue} {ta tb : Int} {pb : Bool} {A : Option Addr} {c : Nat} (h : R = (⟨M, ta, tb, pb⟩, true)) (hg : G w w') (ho : w'.ownsRow w.heap.size 49 6 (.slice A M.length c) M.length (M.flatMap cCue)) : rplE w R (.returned (.tuple #[.agg #[.slice A M.length c, .int .i64 ta, .int .i64 tb, .bool pb], .bool true])) w' := by
  subst h
  exact ⟨A, c, rfl, hg, ho⟩
theorem cCue_one (x : SCue) : ∀ u ∈ cCue x, u.oneCell' = true := by
  intro u hu
  simp only [cCue, List.mem_cons, List.mem_nil_iff, or_false] at hu
  rcases hu with rfl | rfl | rfl | rfl | rfl | rfl <;> rfl
theorem three_of {L : List ByteArray} (h : L.length = 3) : ∃ a b c, L = [a, b, c] := by
  rcases L with _ | ⟨a, _ | ⟨b, _ | ⟨c, _ | ⟨d, r⟩⟩⟩⟩
  · simp at h
  · simp at h
  · simp at h
  · exact ⟨a, b, c, rfl⟩
  · simp at h
end Go.Proofs.YtecakcgkibemaaaGreatDoor
