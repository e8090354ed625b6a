/-
  Walks: holds and a real time drawn from bytes.
-/
import Derived.Test.YtcoaldhmofdfgaaDoorDrawHold
namespace Go.Proofs.YtcoaldhmofdfgaaDoor
open Go.RowKit

set_option maxHeartbeats 2000000 in
theorem DrawShowOf_any (A : Option Addr) (n c : Nat) (L : List Int) (w : World) (h : Code w A n L) (hA : ∀ a, A = some a → L ≠ [] → a.block < w.heap.size) :
    Calls Tryd.prog 26 #[.slice A n c] w fun e w' => ∃ B cb, ∃ M : List SHold, ∃ r : Int, e = .returned (.tuple #[.slice B M.length cb, .int .i64 r]) ∧ M.length ≤ 20 ∧ G w w' ∧ w'.ownsRow w.heap.size 54 2 (.slice B M.length cb) M.length (M.flatMap cHold) := by
  have K := Lib.hid (l00From_any A n c L w h hA)
  clear h hA
  go_enter Tryd.func26, Tryd.ntmps26
  go_wp2_with fail
  refine K.out.mono ?_
  rintro e w1 ⟨rfl, g1, hs1, h1⟩
  have G1 := Lib.hid g1
  have H1 := Lib.hid h1
  obtain ⟨s, HS⟩ : ∃ s, Hid (w.heap.size = s) := ⟨_, rfl⟩
  have hsw : w.heap.size ≤ s := by rw [HS.out]; exact Nat.le_refl _
  rw [HS.out] at H1 hs1
  rw [HS.out]
  clear g1 h1 K
  dsimp only
  go_wp2_with fail
  refine (l18Draw_any _ s A n c L 0 H1.out (by omega)).mono ?_
  rintro e w2 ⟨v, M, rfl, hM, g2, h2, o2⟩
  obtain ⟨B, cb, rfl⟩ := own_lst o2
  have X2 := Lib.hid g2
  have H2 := Lib.hid h2
  have O2 := Lib.hid o2
  have hs2 := World.grownBy.size g2
  clear g2 h2 o2
  dsimp only
  go_wp2_with fail
  refine (l18DrawReal_any B M.length cb M _ s A n c L (0 + 50) H2.out (by omega) (rd_own (by decide) cHold_len O2.out) rfl (by omega) (fun a ha e => by have := (O2.out.lt a.block (by rw [ha]; rfl)).1; omega)).mono ?_
  rintro e w3 ⟨v3, ⟨r, rfl⟩, rfl, g3, h3⟩
  have X3 := Lib.hid (Gx.trans X2.out g3)
  have H3 := Lib.hid h3
  have O3 := Lib.hid (own_src O2.out (by omega) g3)
  have hs3 := World.grownBy.size X3.out
  clear g3 h3 X2 H2
  dsimp only
  go_wp2
  go_ret2
  exact ⟨B, cb, M, r, rfl, hM, Gx.G G1.out X3.out (by intro i hi; cases hi; exact hsw), O3.out.mono (by omega)⟩
end Go.Proofs.YtcoaldhmofdfgaaDoor
