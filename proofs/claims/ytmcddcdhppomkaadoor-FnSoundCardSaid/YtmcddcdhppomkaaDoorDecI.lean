/-
  Walks: the decimal text of a number, by the program's text; and the reference's with a sign.
-/
import Derived.Test.YtmcddcdhppomkaaDoorDec
import Derived.Test.YtmcddcdhppomkaaDoorShelf
import Derived.Lib.SmallJoins
import Derived.Lib.LaidTab
import Derived.Lib.AppendIntMem
namespace Go.Proofs.YtmcddcdhppomkaaDoor
open Go.RowKit

/-- The library's table of powers of ten stands. -/
def TabP (w : World) : Prop := Lib.TabIs Tryd.prog w "internal/strconv.uint64pow10" .u64 Lib.pow10Tab
theorem TabP.G {w w' : World} (h : TabP w) (g : G w w') : TabP w' := Go.Joins.tab_stays (B := w.heap.size) (g := 2) (by kernel_rfl) h g (Nat.le_refl _)
/-- A number's text. -/
def dec (n : Int) : ByteArray := ⟨(Lib.itoa n).toArray⟩
theorem dec_len (n : Int) (h0 : -9223372036854775808 ≤ n) (h1 : n ≤ 9223372036854775807) : (dec n).size ≤ 21 := by
  have := Lib.itoa_length_le n h0 h1
  simpa [dec, ByteArray.size] using this
set_option maxHeartbeats 1000000 in
theorem Decimal_any (n : Int) (h0 : -9223372036854775808 ≤ n) (h1 : n ≤ 9223372036854775807) (w : World) (ht : TabP w) :
    Calls Tryd.prog 38 #[.int .i64 n] w fun e w' => e = .returned (.string (dec n)) ∧ G w w' := by
  go_enter Tryd.func38, Tryd.ntmps38
  go_wp2_with (first | (go_at_call 55; refine (Tryd.internal_strconv_FormatInt_10 n h0 h1 _ ht).mono ?_; rintro e w' ⟨rfl, k, os, rfl⟩) | go_in)
  go_ret
  exact ⟨rfl, Lib.below_grow _ _ (Nat.le_refl _) k os⟩
theorem dec_neg {n : Int} (h : n < 0) : (⟨#[45]⟩ : ByteArray) ++ dec (-n) = dec n := by
  obtain ⟨u, rfl⟩ : ∃ u : Nat, n = -(u : Int) := ⟨n.natAbs, by omega⟩
  unfold dec
  rw [Int.neg_neg, itoa_pos, itoa_neg (by omega)]
  apply ByteArray.ext
  rw [ByteArray.data_append]
  simp
end Go.Proofs.YtmcddcdhppomkaaDoor
