/-
  Walks: the law's own functions on Channel and on slices of Channel: copied, compared, measured, marked, held.
-/
import Derived.Test.YtmcddcdhppomkaaDoorText
import Derived.Deep.WholeRow
import Derived.Lib.SmallJoins
namespace Go.Proofs.YtmcddcdhppomkaaDoor
open Go.RowKit

structure SChannel where
  Name : ByteArray
  Gain : Int
  Pan : Int
  Muted : Bool

def cChannel (x : SChannel) : List Value := [.string x.Name, .int .i64 x.Gain, .int .i64 x.Pan, .bool x.Muted]
theorem cChannel_len (x : SChannel) : (cChannel x).length = 4 := rfl
/-- What is known of an element that came in. -/
def WfChannel (x : SChannel) : Prop := x.Name.size ≤ maxLen
/-- How many letters an element has. -/
def szChannel (x : SChannel) : Int := (x.Name.size : Int)
theorem szChannel_nonneg (x : SChannel) : 0 ≤ szChannel x := by unfold szChannel; omega
/-- The head of a slice and an element's cells. -/
theorem Rd.Channel {w : World} {A : Option Addr} {L : List SChannel} (h : Rd w A 4 cChannel L) {k : Nat} (hk : k < L.length) :
    ∃ b o x, A = some ⟨b, o, none⟩ ∧ L[k]? = some x ∧ w.cell? ⟨b, o + k * 4, none⟩ = some (.string x.Name) ∧ w.cell? ⟨b, o + k * 4 + 1, none⟩ = some (.int .i64 x.Gain) ∧ w.cell? ⟨b, o + k * 4 + 2, none⟩ = some (.int .i64 x.Pan) ∧ w.cell? ⟨b, o + k * 4 + 3, none⟩ = some (.bool x.Muted) := by
  obtain ⟨b, o, x, e, hx, hc⟩ := h.at_ hk
  refine ⟨b, o, x, e, hx, ?_, ?_, ?_, ?_⟩
  · have := hc 0 _ rfl; simpa [← Nat.add_assoc] using this
  · have := hc 1 _ rfl; simpa [← Nat.add_assoc] using this
  · have := hc 2 _ rfl; simpa [← Nat.add_assoc] using this
  · have := hc 3 _ rfl; simpa [← Nat.add_assoc] using this

theorem infoChannel : (Tryd.prog.info? 35).map (fun i => (i.zero, i.size, i.bytes)) = some (some (.agg #[.string ⟨#[]⟩, .int .i64 0, .int .i64 0, .bool false]), 4, 40) := by kernel_rfl

theorem oneChannel (x : SChannel) : (#[.string x.Name, .int .i64 x.Gain, .int .i64 x.Pan, .bool x.Muted] : Array Value).all (·.oneCell') = true := all_oneCell_toArray (cs := cChannel x) (by intro v hv; simp only [cChannel, List.mem_cons, List.not_mem_nil, or_false] at hv; rcases hv with rfl | rfl | rfl | rfl <;> rfl)
theorem flatChannel_succ {L : List SChannel} {k : Nat} {x : SChannel} (h : L[k]? = some x) : (L.take (k + 1)).flatMap cChannel = (L.take k).flatMap cChannel ++ cChannel x := by
  rw [take_snoc h, List.flatMap_append]; simp

/-- The marked element that begins at the number q. -/
def mkChannel (q : Int) : SChannel := ⟨mt (q), q + 1, q + 1 + 1, ((q + 1 + 1 + 1) % 3 == 0)⟩
def mksChannel (q : Int) (n : Nat) : List SChannel := (List.range n).map fun i => mkChannel (q + 4 * (i : Nat))
theorem mksChannel_at (q : Int) (n i : Nat) (h : i < n) : (mksChannel q n)[i]? = some (mkChannel (q + 4 * i)) := by unfold mksChannel; simp [h]
theorem mksChannel_len (q : Int) (n : Nat) : (mksChannel q n).length = n := by unfold mksChannel; simp
theorem mksChannel_succ (q : Int) (n : Nat) : (mksChannel q (n + 1)).flatMap cChannel = (mksChannel q n).flatMap cChannel ++ cChannel (mkChannel (q + 4 * n)) := by unfold mksChannel; simp [List.range_succ, List.flatMap_append]

end Go.Proofs.YtmcddcdhppomkaaDoor
