/-
  Walks: a player started or stopped, by both texts.
-/
import Derived.Test.YtecakcgkibemaaaPlayer
import Derived.Test.YtecakcgkibemaaaCloneCue
namespace Go.Proofs.Ytecakcgkibemaaa
open Go.RowKit

/-- A plain result: a player and a code. -/
structure SRP where
  L : List SCue
  t : Int
  r : Int
  p : Bool
  code : Int
def noP (code : Int) : SRP := ⟨[], 0, 0, false, code⟩
def ResP (w : World) (R : SRP) (e : Ending) (w' : World) : Prop :=
  ∃ A c, e = .returned (.tuple #[pV A R.L.length c R.t R.r R.p, .int .i64 R.code]) ∧ G w w' ∧ w'.ownsRow w.heap.size 44 6 (.slice A R.L.length c) R.L.length (R.L.flatMap cCue)
theorem resP_no {w w' : World} {R : SRP} {code : Int} (h : R = noP code) (hg : G w w') : ResP w R (.returned (.tuple #[pV none 0 0 0 0 false, .int .i64 code])) w' := by
  subst h
  exact ⟨none, 0, rfl, hg, World.ownsRow_nil _ _ _ _⟩
theorem own_val {w : World} {B T sz n : Nat} {v : Value} {xs : List Value} (h : w.ownsRow B T sz v n xs) : ∃ A c, v = .slice A n c := by
  rcases h.2 with ⟨rfl, rfl⟩ | ⟨g, cap, cur, rfl, _⟩
  · exact ⟨_, _, rfl⟩
  · exact ⟨_, _, rfl⟩
def swR (L : List SCue) (t r : Int) (p q : Bool) : SRP := if vplB L t r = false then noP 1 else if p = q then noP 6 else ⟨L, t, r, q, 0⟩

end Go.Proofs.Ytecakcgkibemaaa
