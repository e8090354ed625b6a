/-
  Walks: the law's own functions on slices of texts: compared, marked, held.
-/
import Derived.Test.YtmcddcdhppomkaaDoorText
import Derived.Test.YtmcddcdhppomkaaDoorRes
namespace Go.Proofs.YtmcddcdhppomkaaDoor
open Go.RowKit

theorem infoString : (Tryd.prog.info? 9).map (fun i => (i.zero, i.size, i.bytes)) = some (some (.string ⟨#[]⟩), 1, 16) := by kernel_rfl
/-- Texts: one cell each. -/
def sv (s : ByteArray) : List Value := [.string s]
theorem Rd.str {w : World} {A : Option Addr} {L : List ByteArray} (h : Rd w A 1 sv L) {k : Nat} (hk : k < L.length) :
    ∃ b o x, A = some ⟨b, o, none⟩ ∧ L[k]? = some x ∧ w.cell? ⟨b, o + k, none⟩ = some (.string x) := by
  obtain ⟨b, o, x, e, hx, hc⟩ := h.at_ hk
  exact ⟨b, o, x, e, hx, by simpa using hc 0 (.string x) rfl⟩
theorem rd_strs {w : World} {base : Nat} {e : TypeId} {n : Nat} {A : Option Addr} {c : Nat} {L : List ByteArray} (h : w.ownsRow base e 1 (.slice A n c) n (L.flatMap sv)) : Rd w A 1 sv L :=
  rd_own Nat.one_pos (fun _ => rfl) h

def mksString (k0 : Int) (n : Nat) : List ByteArray := (List.range n).map fun i => mt (k0 + (i : Nat))
theorem mksString_at (k : Int) (n i : Nat) (h : i < n) : (mksString k n)[i]? = some (mt (k + i)) := by unfold mksString; simp [h]
theorem mksString_len (k : Int) (n : Nat) : (mksString k n).length = n := by unfold mksString; simp
theorem mksString_succ (k : Int) (n : Nat) : mksString k (n + 1) = mksString k n ++ [mt (k + n)] := by unfold mksString; simp [List.range_succ]

end Go.Proofs.YtmcddcdhppomkaaDoor
