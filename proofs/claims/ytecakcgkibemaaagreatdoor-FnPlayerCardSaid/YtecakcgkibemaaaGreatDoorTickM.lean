/-
  Words for a player that ticks. No walk.
-/
import Derived.Test.YtecakcgkibemaaaGreatDoorSwitch
import Derived.Test.YtecakcgkibemaaaGreatDoorRemain
import Derived.Test.YtecakcgkibemaaaGreatDoorStrs
namespace Go.Proofs.YtecakcgkibemaaaGreatDoor
open Go.RowKit

def inT (a b : Int) (x : SCue) : Bool := decide (a ≤ x.Time) && decide (x.Time < b)
def idsB (L : List SCue) (a b : Int) : List ByteArray := (L.filter (inT a b)).map (·.Id)
def idAt (L : List SCue) (i : Int) : ByteArray := match L[i.toNat]? with
  | some x => x.Id
  | none => ⟨#[]⟩
def btwN (L : List SCue) (a b : Int) : Nat → List Int
  | 0 => []
  | k + 1 => btwN L a b k ++ (match L[k]? with
    | some x => if inT a b x = true then [(k : Int)] else []
    | none => [])
section
variable {L : List SCue} {a b : Int} {k : Nat} {x : SCue}
theorem idsB_yes (hx : L[k]? = some x) (h : inT a b x = true) : idsB (L.take (k + 1)) a b = idsB (L.take k) a b ++ [x.Id] := by
  unfold idsB
  rw [take_snoc hx, List.filter_append, List.map_append]
  simp [h]
theorem idsB_no (hx : L[k]? = some x) (h : inT a b x = false) : idsB (L.take (k + 1)) a b = idsB (L.take k) a b := by
  unfold idsB
  rw [take_snoc hx, List.filter_append, List.map_append]
  simp [h]
theorem idsB_len (L : List SCue) (a b : Int) : (idsB L a b).length ≤ L.length := by
  unfold idsB
  rw [List.length_map]
  exact List.length_filter_le _ _
theorem btwN_yes (hx : L[k]? = some x) (h : inT a b x = true) : btwN L a b (k + 1) = btwN L a b k ++ [(k : Int)] := by
  rw [btwN, hx]
  simp [h]
theorem btwN_no (hx : L[k]? = some x) (h : inT a b x = false) : btwN L a b (k + 1) = btwN L a b k := by
  rw [btwN, hx]
  simp [h]
theorem btwN_len : ∀ k, (btwN L a b k).length ≤ k
  | 0 => Nat.le_refl _
  | k + 1 => by
    have h := btwN_len k
    rw [btwN, List.length_append]
    split
    · split <;> simp <;> omega
    · simp; omega
theorem btwN_in : ∀ k {i : Int}, i ∈ btwN L a b k → ∃ n : Nat, i = n ∧ n < L.length
  | 0, i, h => by simp [btwN] at h
  | k + 1, i, h => by
    rw [btwN, List.mem_append] at h
    rcases h with h | h
    · exact btwN_in k h
    · split at h
      · rename_i y hy
        split at h
        · simp only [List.mem_singleton] at h
          exact ⟨k, h, (List.getElem?_eq_some_iff.1 hy).1⟩
        · simp at h
      · simp at h
theorem ids_btw : ∀ k, idsB (L.take k) a b = (btwN L a b k).map (idAt L)
  | 0 => by simp [idsB, btwN]
  | k + 1 => by
    cases hx : L[k]? with
    | none =>
      have hk : L.length ≤ k := by simpa using hx
      rw [btwN, hx, List.append_nil, ← ids_btw k, List.take_of_length_le (by omega), List.take_of_length_le hk]
    | some x =>
      cases h : inT a b x
      · rw [idsB_no hx h, btwN_no hx h, ids_btw k]
      · rw [idsB_yes hx h, btwN_yes hx h, ids_btw k, List.map_append]
        simp [idAt, hx]
end
theorem endL_ge (L : List SCue) : ∀ x ∈ L, x.Time + x.Length ≤ endL L := by
  have h : ∀ (L : List SCue) (e : Int), e ≤ L.foldl (fun e x => max e (x.Time + x.Length)) e ∧ ∀ x ∈ L, x.Time + x.Length ≤ L.foldl (fun e x => max e (x.Time + x.Length)) e := by
    intro L
    induction L with
    | nil => intro e; exact ⟨Int.le_refl _, fun x hx => by simp at hx⟩
    | cons y L ih =>
      intro e
      obtain ⟨h1, h2⟩ := ih (max e (y.Time + y.Length))
      simp only [List.foldl_cons]
      refine ⟨by omega, fun x hx => ?_⟩
      rcases List.mem_cons.1 hx with rfl | hx
      · omega
      · exact h2 x hx
  exact (h L 0).2
theorem idsB_end {L : List SCue} (h : vcus L = true) (a : Int) : idsB L a (endL L + 1) = idsB L a 7200001 := by
  unfold idsB
  congr 1
  apply List.filter_congr
  intro x hx
  obtain ⟨k, hk⟩ := List.getElem?_of_mem hx
  have hv := vcuB_bd (vcus_at h hk)
  have he := endL_ge L x hx
  have hb := endL_all h
  unfold inT
  congr 1
  rw [decide_eq_decide]
  omega
/-- What a tick hands back: the player, and the cues that have begun. -/
def tickR (L : List SCue) (t r : Int) (p : Bool) (m : Int) : SRP × List ByteArray :=
  if vplB L t r = false then (noP 1, []) else if inB m 0 600000 = false then (noP 2, []) else if p = false then (⟨L, t, r, false, 0⟩, [])
  else if endL L ≤ t + m * r / 1000 then (⟨L, endL L, r, false, 0⟩, idsB L t 7200001) else (⟨L, t + m * r / 1000, r, true, 0⟩, idsB L t (t + m * r / 1000))
theorem tickR_len (L : List SCue) {t r : Int} {p : Bool} {m : Int} : (tickR L t r p m).1.L.length ≤ L.length := by
  unfold tickR noP
  repeat' split
  all_goals simp
theorem tickR_len2 (L : List SCue) {t r : Int} {p : Bool} {m : Int} : (tickR L t r p m).2.length ≤ L.length := by
  unfold tickR
  repeat' split
  all_goals first | exact Nat.zero_le _ | exact idsB_len _ _ _
def ResT (w : World) (R : SRP × List ByteArray) (e : Ending) (w' : World) : Prop :=
  ∃ A c A2 c2, e = .returned (.tuple #[pV A R.1.L.length c R.1.t R.1.r R.1.p, .slice A2 R.2.length c2, .int .i64 R.1.code]) ∧ G w w' ∧ w'.ownsRow w.heap.size 49 6 (.slice A R.1.L.length c) R.1.L.length (R.1.L.flatMap cCue) ∧ w'.ownsRow w.heap.size 9 1 (.slice A2 R.2.length c2) R.2.length (R.2.flatMap sv) ∧ ∀ a b, A = some a → A2 = some b → a.block ≠ b.block
theorem resT_no {w w' : World} {R : SRP × List ByteArray} {code : Int} (h : R = (noP code, [])) (hg : G w w') : ResT w R (.returned (.tuple #[pV none 0 0 0 0 false, .slice none 0 0, .int .i64 code])) w' := by
  subst h
  exact ⟨none, 0, none, 0, rfl, hg, World.ownsRow_nil _ _ _ _, World.ownsRow_nil _ _ _ _, fun a b h => by simp at h⟩
theorem tick_bd {r m : Int} (h3 : 100 ≤ r) (h4 : r ≤ 4000) (h5 : 0 ≤ m) (h6 : m ≤ 600000) : 0 ≤ m * r ∧ m * r ≤ 2400000000 ∧ 0 ≤ m * r / 1000 ∧ m * r / 1000 ≤ 2400000 := by
  have a := Int.mul_nonneg h5 (show (0 : Int) ≤ r by omega)
  have b : m * r ≤ 600000 * r := Int.mul_le_mul_of_nonneg_right h6 (by omega)
  omega
end Go.Proofs.YtecakcgkibemaaaGreatDoor
