/-
  The law of LoudnessOf, walked.
-/
import Derived.Test.YtnnhffehboknnaaLoud
namespace Go.Proofs.Ytnnhffehboknnaa
open Go.RowKit

set_option maxRecDepth 20000 in
set_option maxHeartbeats 4000000 in
theorem lawLoudnessOf (A0 : Option Addr) (n0 c0 : Nat) (zs0 : List Int) (w : World) (h0 : IsRow .i64 w A0 n0 c0 zs0) :
    Calls Try.prog 9 #[.slice A0 n0 c0] w fun e w' => e = .returned (.bool true) ∧ Below w.heap.size w w' := by
  obtain ⟨hm0, hn0, hr0⟩ := rd_of_isRow h0
  obtain ⟨L0, hL0⟩ : ∃ L, L = zs0.take n0 := ⟨_, rfl⟩
  rw [← hL0] at hn0 hr0
  clear h0 hL0
  unfold maxLen at hm0
  have Hn0 := Lib.hid hn0
  have HR0 := Lib.hid hr0
  clear hn0 hr0
  by_cases hbig0 : n0 ≤ 1048576
  case neg =>
    go_enter Try.func9, Try.ntmps9
    go_wp2
    go_ret
    exact ⟨rfl, (G.refl _)⟩
  obtain ⟨R, HX⟩ : ∃ R, Hid (loudR L0 = R) := ⟨_, rfl⟩
  go_enter Try.func9, Try.ntmps9
  have s0 : w.heap.size ≤ w.heap.size := Nat.le_refl _
  go_wp2_with fail
  refine (toInt64S_any A0 n0 c0 L0 _ HR0.out Hn0.out (by omega)).mono ?_
  rintro e w1 ⟨b1, rfl, hb1, hl1, g1, o1⟩
  have s1 := g1.size
  have O1 := Lib.hid o1
  clear o1
  have G1 := Lib.hid (g1)
  clear g1
  go_wp2_with fail
  refine (sLoudnessOf_any _ n0 _ L0 _ (rd_ints O1.out) Hn0.out (by omega)).mono ?_
  rintro e w2 ⟨rfl, g2⟩
  have O1 := Lib.hid (own_G O1.out g2)
  have s2 := g2.size
  have G2 := Lib.hid (G1.out.trans g2)
  clear g2
  rw [HX.out]
  go_wp2_with fail
  refine (toInt64S_any A0 n0 c0 L0 _ (HR0.out.G G2.out) Hn0.out (by omega)).mono ?_
  rintro e w3 ⟨b2, rfl, hb2, hl2, g3, o2⟩
  have s3 := g3.size
  have O2 := Lib.hid o2
  clear o2
  have G3 := Lib.hid (G2.out.trans g3)
  clear g3
  go_wp2_with fail
  refine (iLoudnessOf_any _ n0 _ L0 _ (rd_ints O2.out) Hn0.out (by omega)).mono ?_
  rintro e w4 ⟨rfl, g4⟩
  have O2 := Lib.hid (own_G O2.out g4)
  have s4 := g4.size
  have G4 := Lib.hid (G3.out.trans g4)
  clear g4
  rw [HX.out]
  go_wp2_with fail
  refine (toInt64S_any A0 n0 c0 L0 _ (HR0.out.G G4.out) Hn0.out (by omega)).mono ?_
  rintro e w5 ⟨b3, rfl, hb3, hl3, g5, o3⟩
  have O2 := Lib.hid (own_G O2.out g5)
  have s5 := g5.size
  have O3 := Lib.hid o3
  clear o3
  have G5 := Lib.hid (G4.out.trans g5)
  clear g5
  go_wp2_with fail
  refine (eqInt64S_G _ _ n0 _ _ L0 _ (rd_ints O2.out) (rd_ints O3.out) Hn0.out (by omega)).mono ?_
  rintro e w6 ⟨rfl, g6⟩
  have O2 := Lib.hid (own_G O2.out g6)
  have O3 := Lib.hid (own_G O3.out g6)
  have s6 := g6.size
  have G6 := Lib.hid (G5.out.trans g6)
  clear g6
  go_wp2
  go_ret
  exact ⟨rfl, G6.out⟩
end Go.Proofs.Ytnnhffehboknnaa
