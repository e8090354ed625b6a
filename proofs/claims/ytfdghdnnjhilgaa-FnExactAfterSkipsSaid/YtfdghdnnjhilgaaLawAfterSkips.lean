/-
  The law of AfterSkips, walked.
-/
import Derived.Test.YtfdghdnnjhilgaaAfterSkips
import Derived.Test.YtfdghdnnjhilgaaOpSkip
namespace Go.Proofs.Ytfdghdnnjhilgaa
open Go.RowKit

set_option maxRecDepth 20000 in
set_option maxHeartbeats 4000000 in
theorem lawAfterSkips (A0 : Option Addr) (n0 c0 : Nat) (L0 : List SSkip) (A1 : Option Addr) (n1 c1 : Nat) (zs1 : List Int) (a2 : Int) (w : World) (h0 : ArgSkip w A0 n0 c0 L0) (h1 : IsRow .i64 w A1 n1 c1 zs1) (_wf2 : (Lit.int .i64 a2).wf = true) :
    Calls Try.prog 9 #[.slice A0 n0 c0, .slice A1 n1 c1, .int .i64 a2] w fun e w' => e = .returned (.bool true) ∧ Below w.heap.size w w' := by
  obtain ⟨hm0, hn0, hr0, hw0⟩ := h0
  have HW0 := Lib.hid hw0
  clear hw0
  unfold maxLen at hm0
  have Hn0 := Lib.hid hn0
  have HR0 := Lib.hid hr0
  clear hn0 hr0
  obtain ⟨hm1, hn1, hr1⟩ := rd_of_isRow h1
  obtain ⟨L1, hL1⟩ : ∃ L, L = zs1.take n1 := ⟨_, rfl⟩
  rw [← hL1] at hn1 hr1
  clear h1 hL1
  unfold maxLen at hm1
  have Hn1 := Lib.hid hn1
  have HR1 := Lib.hid hr1
  clear hn1 hr1
  by_cases hbig1 : n1 ≤ 1048576
  case neg =>
    go_enter Try.func9, Try.ntmps9
    go_wp2
    go_ret
    exact ⟨rfl, (G.refl _)⟩
  by_cases q0 : (1048576 : Int) - (n0 : Int) < 0
  case pos =>
    have HZ := Lib.hid (szR_neg q0)
    go_enter Try.func9, Try.ntmps9
    go_wp2_with fail
    refine (szSkipS_any A0 n0 c0 _ _ (by omega) (by omega) (by omega)).mono ?_
    rintro e w1 ⟨rfl, g1⟩
    have G1 := Lib.hid (g1)
    clear g1
    rw [HZ.out]
    go_wp2
    go_ret
    exact ⟨rfl, G1.out⟩
  have HZ0 := Lib.hid (szR_pos (y := (1048576 : Int) - (n0 : Int)) (by omega))
  obtain ⟨R, HX⟩ : ∃ R, Hid (afterR L0 L1 a2 = R) := ⟨_, rfl⟩
  go_enter Try.func9, Try.ntmps9
  go_wp2_with fail
  refine (szSkipS_any A0 n0 c0 _ _ (by omega) (by omega) (by omega)).mono ?_
  rintro e w1 ⟨rfl, g1⟩
  have G1 := Lib.hid (g1)
  clear g1
  rw [HZ0.out]
  have s0 : w.heap.size ≤ w.heap.size := Nat.le_refl _
  go_wp2_with fail
  refine (toSkipS_any A0 n0 c0 L0 _ (HR0.out.G G1.out) Hn0.out (by omega)).mono ?_
  rintro e w2 ⟨b1, rfl, hb1, hl1, g2, o1⟩
  have s2 := g2.size
  have O1 := Lib.hid o1
  clear o1
  have G2 := Lib.hid (G1.out.trans g2)
  clear g2
  go_wp2_with fail
  refine (toInt64S_any A1 n1 c1 L1 _ (HR1.out.G G2.out) Hn1.out (by omega)).mono ?_
  rintro e w3 ⟨b2, rfl, hb2, hl2, g3, o2⟩
  have O1 := Lib.hid (own_G O1.out g3)
  have s3 := g3.size
  have O2 := Lib.hid o2
  clear o2
  have G3 := Lib.hid (G2.out.trans g3)
  clear g3
  go_wp2_with fail
  refine (sAfterSkips_any _ n0 _ L0 _ n1 _ L1 a2 _ (rd_own (by decide) cSkip_len O1.out) Hn0.out (by omega) (rd_ints O2.out) Hn1.out (by omega)).mono ?_
  rintro e w4 ⟨rfl, g4⟩
  have O1 := Lib.hid (own_G O1.out g4)
  have O2 := Lib.hid (own_G O2.out g4)
  have s4 := g4.size
  have G4 := Lib.hid (G3.out.trans g4)
  clear g4
  rw [HX.out]
  go_wp2_with fail
  refine (toSkipS_any A0 n0 c0 L0 _ (HR0.out.G G4.out) Hn0.out (by omega)).mono ?_
  rintro e w5 ⟨b3, rfl, hb3, hl3, g5, o3⟩
  have s5 := g5.size
  have O3 := Lib.hid o3
  clear o3
  have G5 := Lib.hid (G4.out.trans g5)
  clear g5
  go_wp2_with fail
  refine (toInt64S_any A1 n1 c1 L1 _ (HR1.out.G G5.out) Hn1.out (by omega)).mono ?_
  rintro e w6 ⟨b4, rfl, hb4, hl4, g6, o4⟩
  have O3 := Lib.hid (own_G O3.out g6)
  have s6 := g6.size
  have O4 := Lib.hid o4
  clear o4
  have G6 := Lib.hid (G5.out.trans g6)
  clear g6
  go_wp2_with fail
  refine (iAfterSkips_any _ n0 _ L0 _ n1 _ L1 a2 _ (rd_own (by decide) cSkip_len O3.out) Hn0.out (by omega) (rd_ints O4.out) Hn1.out (by omega)).mono ?_
  rintro e w7 ⟨rfl, g7⟩
  have O3 := Lib.hid (own_G O3.out g7)
  have O4 := Lib.hid (own_G O4.out g7)
  have s7 := g7.size
  have G7 := Lib.hid (G6.out.trans g7)
  clear g7
  rw [HX.out]
  go_wp2_with fail
  refine (toSkipS_any A0 n0 c0 L0 _ (HR0.out.G G7.out) Hn0.out (by omega)).mono ?_
  rintro e w8 ⟨b5, rfl, hb5, hl5, g8, o5⟩
  have O3 := Lib.hid (own_G O3.out g8)
  have O4 := Lib.hid (own_G O4.out g8)
  have s8 := g8.size
  have O5 := Lib.hid o5
  clear o5
  have G8 := Lib.hid (G7.out.trans g8)
  clear g8
  go_wp2_with fail
  refine (eqSkipS_same _ _ n0 _ _ L0 _ (rd_own (by decide) cSkip_len O3.out) (rd_own (by decide) cSkip_len O5.out) Hn0.out (by omega)).mono ?_
  rintro e w9 ⟨rfl, g9⟩
  have O3 := Lib.hid (own_G O3.out g9)
  have O4 := Lib.hid (own_G O4.out g9)
  have O5 := Lib.hid (own_G O5.out g9)
  have s9 := g9.size
  have G9 := Lib.hid (G8.out.trans g9)
  clear g9
  go_wp2_with fail
  refine (toInt64S_any A1 n1 c1 L1 _ (HR1.out.G G9.out) Hn1.out (by omega)).mono ?_
  rintro e w10 ⟨b6, rfl, hb6, hl6, g10, o6⟩
  have O3 := Lib.hid (own_G O3.out g10)
  have O4 := Lib.hid (own_G O4.out g10)
  have s10 := g10.size
  have O6 := Lib.hid o6
  clear o6
  have G10 := Lib.hid (G9.out.trans g10)
  clear g10
  go_wp2_with fail
  refine (eqInt64S_G _ _ n1 _ _ L1 _ (rd_ints O4.out) (rd_ints O6.out) Hn1.out (by omega)).mono ?_
  rintro e w11 ⟨rfl, g11⟩
  have O3 := Lib.hid (own_G O3.out g11)
  have O4 := Lib.hid (own_G O4.out g11)
  have O6 := Lib.hid (own_G O6.out g11)
  have s11 := g11.size
  have G11 := Lib.hid (G10.out.trans g11)
  clear g11
  go_wp2
  go_ret
  exact ⟨rfl, G11.out⟩
end Go.Proofs.Ytfdghdnnjhilgaa
