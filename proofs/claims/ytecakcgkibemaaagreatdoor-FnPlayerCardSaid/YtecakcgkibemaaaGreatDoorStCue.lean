/-
  Walks: the law's own functions on Cue and on slices of Cue: copied, compared, measured, marked, held.
-/
import Derived.Test.YtecakcgkibemaaaGreatDoorText
import Derived.Deep.WholeRow
import Derived.Lib.SmallJoins
namespace Go.Proofs.YtecakcgkibemaaaGreatDoor
open Go.RowKit

structure SCue where
  Id : ByteArray
  Time : Int
  Length : Int
  Target : ByteArray
  Action : Int
  Value : Int

def cCue (x : SCue) : List Value := [.string x.Id, .int .i64 x.Time, .int .i64 x.Length, .string x.Target, .int .i64 x.Action, .int .i64 x.Value]
theorem cCue_len (x : SCue) : (cCue x).length = 6 := rfl
/-- What is known of an element that came in. -/
def WfCue (x : SCue) : Prop := x.Id.size ≤ maxLen ∧ x.Target.size ≤ maxLen
/-- How many letters an element has. -/
def szCue (x : SCue) : Int := (x.Id.size : Int) + (x.Target.size : Int)
theorem szCue_nonneg (x : SCue) : 0 ≤ szCue x := by unfold szCue; omega
/-- The head of a slice and an element's cells. -/
theorem Rd.Cue {w : World} {A : Option Addr} {L : List SCue} (h : Rd w A 6 cCue L) {k : Nat} (hk : k < L.length) :
    ∃ b o x, A = some ⟨b, o, none⟩ ∧ L[k]? = some x ∧ w.cell? ⟨b, o + k * 6, none⟩ = some (.string x.Id) ∧ w.cell? ⟨b, o + k * 6 + 1, none⟩ = some (.int .i64 x.Time) ∧ w.cell? ⟨b, o + k * 6 + 2, none⟩ = some (.int .i64 x.Length) ∧ w.cell? ⟨b, o + k * 6 + 3, none⟩ = some (.string x.Target) ∧ w.cell? ⟨b, o + k * 6 + 4, none⟩ = some (.int .i64 x.Action) ∧ w.cell? ⟨b, o + k * 6 + 5, none⟩ = some (.int .i64 x.Value) := by
  obtain ⟨b, o, x, e, hx, hc⟩ := h.at_ hk
  refine ⟨b, o, x, e, hx, ?_, ?_, ?_, ?_, ?_, ?_⟩
  · have := hc 0 _ rfl; simpa [← Nat.add_assoc] using this
  · have := hc 1 _ rfl; simpa [← Nat.add_assoc] using this
  · have := hc 2 _ rfl; simpa [← Nat.add_assoc] using this
  · have := hc 3 _ rfl; simpa [← Nat.add_assoc] using this
  · have := hc 4 _ rfl; simpa [← Nat.add_assoc] using this
  · have := hc 5 _ rfl; simpa [← Nat.add_assoc] using this

theorem infoCue : (Tryz.prog.info? 49).map (fun i => (i.zero, i.size, i.bytes)) = some (some (.agg #[.string ⟨#[]⟩, .int .i64 0, .int .i64 0, .string ⟨#[]⟩, .int .i64 0, .int .i64 0]), 6, 64) := by kernel_rfl

theorem oneCue (x : SCue) : (#[.string x.Id, .int .i64 x.Time, .int .i64 x.Length, .string x.Target, .int .i64 x.Action, .int .i64 x.Value] : Array Value).all (·.oneCell') = true := all_oneCell_toArray (cs := cCue x) (by intro v hv; simp only [cCue, List.mem_cons, List.not_mem_nil, or_false] at hv; rcases hv with rfl | rfl | rfl | rfl | rfl | rfl <;> rfl)
theorem flatCue_succ {L : List SCue} {k : Nat} {x : SCue} (h : L[k]? = some x) : (L.take (k + 1)).flatMap cCue = (L.take k).flatMap cCue ++ cCue x := by
  rw [take_snoc h, List.flatMap_append]; simp

/-- The marked element that begins at the number q. -/
def mkCue (q : Int) : SCue := ⟨mt (q), q + 1, q + 1 + 1, mt (q + 1 + 1 + 1), q + 1 + 1 + 1 + 1, q + 1 + 1 + 1 + 1 + 1⟩
def mksCue (q : Int) (n : Nat) : List SCue := (List.range n).map fun i => mkCue (q + 6 * (i : Nat))
theorem mksCue_at (q : Int) (n i : Nat) (h : i < n) : (mksCue q n)[i]? = some (mkCue (q + 6 * i)) := by unfold mksCue; simp [h]
theorem mksCue_len (q : Int) (n : Nat) : (mksCue q n).length = n := by unfold mksCue; simp
theorem mksCue_succ (q : Int) (n : Nat) : (mksCue q (n + 1)).flatMap cCue = (mksCue q n).flatMap cCue ++ cCue (mkCue (q + 6 * n)) := by unfold mksCue; simp [List.range_succ, List.flatMap_append]

end Go.Proofs.YtecakcgkibemaaaGreatDoor
