/-
  Walks: the law's own functions on Level and on slices of Level: copied, compared, measured, marked, held.
-/
import Derived.Test.YtecakcgkibemaaaText
import Derived.Deep.WholeRow
import Derived.Lib.SmallJoins
namespace Go.Proofs.Ytecakcgkibemaaa
open Go.RowKit

structure SLevel where
  Target : ByteArray
  Value : Int

def cLevel (x : SLevel) : List Value := [.string x.Target, .int .i64 x.Value]
theorem cLevel_len (x : SLevel) : (cLevel x).length = 2 := rfl
/-- What is known of an element that came in. -/
def WfLevel (x : SLevel) : Prop := x.Target.size ≤ maxLen
/-- How many letters an element has. -/
def szLevel (x : SLevel) : Int := (x.Target.size : Int)
theorem szLevel_nonneg (x : SLevel) : 0 ≤ szLevel x := by unfold szLevel; omega
/-- The head of a slice and an element's cells. -/
theorem Rd.Level {w : World} {A : Option Addr} {L : List SLevel} (h : Rd w A 2 cLevel L) {k : Nat} (hk : k < L.length) :
    ∃ b o x, A = some ⟨b, o, none⟩ ∧ L[k]? = some x ∧ w.cell? ⟨b, o + k * 2, none⟩ = some (.string x.Target) ∧ w.cell? ⟨b, o + k * 2 + 1, none⟩ = some (.int .i64 x.Value) := by
  obtain ⟨b, o, x, e, hx, hc⟩ := h.at_ hk
  refine ⟨b, o, x, e, hx, ?_, ?_⟩
  · have := hc 0 _ rfl; simpa [← Nat.add_assoc] using this
  · have := hc 1 _ rfl; simpa [← Nat.add_assoc] using this

theorem infoLevel : (Try.prog.info? 41).map (fun i => (i.zero, i.size, i.bytes)) = some (some (.agg #[.string ⟨#[]⟩, .int .i64 0]), 2, 24) := by kernel_rfl

theorem oneLevel (x : SLevel) : (#[.string x.Target, .int .i64 x.Value] : Array Value).all (·.oneCell') = true := all_oneCell_toArray (cs := cLevel x) (by intro v hv; simp only [cLevel, List.mem_cons, List.not_mem_nil, or_false] at hv; rcases hv with rfl | rfl <;> rfl)
theorem flatLevel_succ {L : List SLevel} {k : Nat} {x : SLevel} (h : L[k]? = some x) : (L.take (k + 1)).flatMap cLevel = (L.take k).flatMap cLevel ++ cLevel x := by
  rw [take_snoc h, List.flatMap_append]; simp

/-- The marked element that begins at the number q. -/
def mkLevel (q : Int) : SLevel := ⟨mt (q), q + 1⟩
def mksLevel (q : Int) (n : Nat) : List SLevel := (List.range n).map fun i => mkLevel (q + 2 * (i : Nat))
theorem mksLevel_at (q : Int) (n i : Nat) (h : i < n) : (mksLevel q n)[i]? = some (mkLevel (q + 2 * i)) := by unfold mksLevel; simp [h]
theorem mksLevel_len (q : Int) (n : Nat) : (mksLevel q n).length = n := by unfold mksLevel; simp
theorem mksLevel_succ (q : Int) (n : Nat) : (mksLevel q (n + 1)).flatMap cLevel = (mksLevel q n).flatMap cLevel ++ cLevel (mkLevel (q + 2 * n)) := by unfold mksLevel; simp [List.range_succ, List.flatMap_append]

end Go.Proofs.Ytecakcgkibemaaa
