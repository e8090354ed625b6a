/-
  Walks: the targets of cues, by the reference's text (each inserted at its place).
-/
import Derived.Test.YtecakcgkibemaaaTgt
import Derived.BigQuiet
namespace Go.Proofs.Ytecakcgkibemaaa
open Go.RowKit

theorem sv_one (s : ByteArray) : ∀ u ∈ sv s, u.oneCell' = true := str_oneCell s
theorem own_blk {w : World} {B T n : Nat} {v : Value} {xs : List Value} (h : w.ownsRow B T 1 v n xs) (hn : 0 < n) : ∃ g c, v = .slice (some ⟨g, 0, none⟩) n c ∧ B ≤ g ∧ n ≤ c ∧ c ≤ maxLen := by
  rcases h.2 with ⟨_, rfl⟩ | ⟨g, cap, cur, rfl, hb, _, hn, hm, _⟩
  · omega
  · exact ⟨g, cap, rfl, hb, hn, hm⟩

end Go.Proofs.Ytecakcgkibemaaa
