/-
  The law FnHolds, walked.
-/
import Derived.Test.YtfdghdnnjhilgaaDrawHold
import Derived.Test.YtfdghdnnjhilgaaHoldMath
import Derived.Test.YtfdghdnnjhilgaaB10
namespace Go.Proofs.Ytfdghdnnjhilgaa
open Go.RowKit

theorem addHR_bad {L : List SHold} {r len : Int} (h : (addHR L r len).2 ≠ 0) : (addHR L r len).1 = [] := by
  unfold addHR at h ⊢
  repeat' split
  all_goals first
    | rfl
    | (exfalso; revert h; simp only [*, if_false]; simp)

set_option maxRecDepth 20000 in
set_option maxHeartbeats 2000000 in
theorem lawFnHolds (A0 : Option Addr) (n0 c0 : Nat) (z0 : List Int) (A1 : Option Addr) (n1 c1 : Nat) (z1 : List Int) (w : World) (h0 : IsRow .u8 w A0 n0 c0 z0) (h1 : IsRow .u8 w A1 n1 c1 z1) :
    Calls Try.prog 13 #[.slice A0 n0 c0, .slice A1 n1 c1] w fun e w' => e = .returned (.bool true) ∧ Below w.heap.size w w' := by
  by_cases hb0 : n0 ≤ 1048576
  case neg =>
    clear h0 h1
    by_cases hb1 : n1 ≤ 1048576
    all_goals
      go_enter Try.func13, Try.ntmps13
      go_wp2
      go_ret
      exact ⟨rfl, G.refl _⟩
  by_cases hb1 : n1 ≤ 1048576
  case neg =>
    clear h0 h1
    go_enter Try.func13, Try.ntmps13
    go_wp2
    go_ret
    exact ⟨rfl, G.refl _⟩
  obtain ⟨hc0, hl0⟩ := code_of_isRow h0 hb0
  obtain ⟨hc1, _⟩ := code_of_isRow h1 hb1
  have K0 := Lib.hid (DrawAddHold_any A0 n0 c0 _ w hc0 hl0)
  have HC := Lib.hid hc1
  clear h0 h1 hc0 hl0 hc1
  go_enter Try.func13, Try.ntmps13
  go_wp2_with fail
  refine (b10Long_no A0 n0 c0 _ hb0).mono ?_
  rintro e w' ⟨rfl, rfl⟩
  dsimp only
  go_wp2_with fail
  refine (b10Long_no A1 n1 c1 _ hb1).mono ?_
  rintro e w' ⟨rfl, rfl⟩
  dsimp only
  go_wp2_with fail
  refine K0.out.mono ?_
  rintro e w1 ⟨B, cb, M, r, len, rfl, hM, g1, o1⟩
  have G1 := Lib.hid g1
  have O1 := Lib.hid o1
  clear g1 o1 K0
  dsimp only
  go_wp2_with fail
  refine (iAddHold_any B M.length cb M r len _ (rd_own (by decide) cHold_len O1.out) rfl (by omega)).mono ?_
  obtain ⟨R, HR⟩ : ∃ R, Hid (addHR M r len = R) := ⟨_, rfl⟩
  rw [HR.out]
  rintro e w2 ⟨B2, cb2, rfl, g2, o2⟩
  have G2 := Lib.hid (G1.out.trans g2)
  have O2 := Lib.hid o2
  replace O1 := Lib.hid (own_G O1.out g2)
  clear g2 o2
  dsimp only
  by_cases hz : R.2 = 0
  case neg =>
    have hd : (R.2 == 0) = false := by simp [hz]
    have HL := Lib.hid (show R.1.length = 0 by rw [← HR.out] at hz ⊢; rw [addHR_bad hz]; rfl)
    clear hz
    rw [HL.out]
    go_wp2
    go_ret
    exact ⟨rfl, G2.out⟩
  have hd : (R.2 == 0) = true := by simp [hz]
  have HZ := Lib.hid (show (addHR M r len).2 = 0 by rw [HR.out]; exact hz)
  clear hz
  have HW := Lib.hid (fun t (h0 : (0 : Int) ≤ t) (h1 : t ≤ 7200000) => holds_law HZ.out h0 h1)
  rw [HR.out] at HW
  obtain ⟨s, HS⟩ : ∃ s, Hid (showV M r = s) := ⟨_, rfl⟩
  obtain ⟨q1, q2, q3, q4, q5, q6, q7, -, -, q8, q9⟩ := HW.out 0 (by omega) (by omega)
  have HSH := Lib.hid (show showR M r = (showV M r, heldB M r (showV M r), 0) by unfold showR; rw [if_neg (by rw [q1]; simp), if_neg (by rw [q2]; simp)])
  have HV := Lib.hid q1
  have HV2 := Lib.hid q7
  have HL2 := Lib.hid q6
  rw [HS.out] at q3 q4 HSH HW
  have hR1 : R.1.length ≤ 21 := by rw [q6]; omega
  have hR2 : 1 ≤ R.1.length := by rw [q6]; omega
  clear q1 q2 q5 q6 q7
  go_wp2_with fail
  refine (iShowOf_any B M.length cb M r _ (rd_own (by decide) cHold_len O1.out) rfl (by omega)).mono ?_
  rw [HSH.out]
  rintro e w3 ⟨rfl, g3⟩
  have G3 := Lib.hid (G2.out.trans g3)
  replace O1 := Lib.hid (own_G O1.out g3)
  replace O2 := Lib.hid (own_G O2.out g3)
  clear g3
  dsimp only
  go_wp2_with fail
  refine (b10Wide_any A1 n1 c1 _ 0 7200001 _ (HC.out.g G3.out) (by omega) (by omega) (by omega) (by omega)).mono ?_
  rintro e w' ⟨x, hx0, hx1, rfl, rfl⟩
  dsimp only
  go_wp2_with fail
  refine (b10At_any A1 n1 c1 _ 3 2 _ (HC.out.g G3.out) (by omega) (by omega) (by omega) (by omega)).mono ?_
  rintro e w' ⟨y, hy0, hy1, rfl, rfl⟩
  dsimp only
  by_cases hy : y = 0
  · subst hy
    obtain ⟨-, -, -, -, -, -, -, k1, k2, -, -⟩ := HW.out s (by omega) (by omega)
    have kb := realL_take HV.out M.length s
    rw [List.take_length] at kb
    obtain ⟨X, HXe⟩ : ∃ X, Hid (realL M s = X) := ⟨_, rfl⟩
    rw [HXe.out] at k1 k2 kb
    have KR1 := Lib.hid k1
    have KR2 := Lib.hid (show realR R.1 s = (X, 0) by rw [k2, if_neg (by omega), Int.add_zero])
    clear k1 k2
    go_wp2_with fail
    refine (iRealOf_any B M.length cb M s _ (rd_own (by decide) cHold_len O1.out) rfl (by omega)).mono ?_
    rw [KR1.out]
    rintro e w4 ⟨rfl, g4⟩
    have G4 := Lib.hid (G3.out.trans g4)
    replace O1 := Lib.hid (own_G O1.out g4)
    replace O2 := Lib.hid (own_G O2.out g4)
    clear g4
    dsimp only
    go_wp2_with fail
    refine (iRealOf_any B2 R.1.length cb2 R.1 s _ (rd_own (by decide) cHold_len O2.out) rfl (by omega)).mono ?_
    rw [KR2.out]
    rintro e w5 ⟨rfl, g5⟩
    have G5 := Lib.hid (G4.out.trans g5)
    replace O1 := Lib.hid (own_G O1.out g5)
    replace O2 := Lib.hid (own_G O2.out g5)
    clear g5
    dsimp only
    go_wp2_with fail
    refine (sValidHolds_any B2 R.1.length cb2 R.1 _ (rd_own (by decide) cHold_len O2.out) rfl (by omega)).mono ?_
    rw [HV2.out]
    rintro e w6 ⟨rfl, g6⟩
    have G6 := Lib.hid (G5.out.trans g6)
    clear g6
    dsimp only
    rw [HL2.out]
    go_wp2
    go_ret
    exact ⟨ret_bool (by simp), G6.out⟩
  have hyd : (y == 0) = false := by simp [hy]
  clear hy
  by_cases hst : s < x
  · skip
    obtain ⟨-, -, -, -, -, -, -, k1, k2, -, -⟩ := HW.out x (by omega) (by omega)
    have kb := realL_take HV.out M.length x
    rw [List.take_length] at kb
    obtain ⟨X, HXe⟩ : ∃ X, Hid (realL M x = X) := ⟨_, rfl⟩
    rw [HXe.out] at k1 k2 kb
    have KR1 := Lib.hid k1
    have KR2 := Lib.hid (show realR R.1 x = (X + len, 0) by rw [k2, if_pos hst])
    clear k1 k2
    go_wp2_with fail
    refine (iRealOf_any B M.length cb M x _ (rd_own (by decide) cHold_len O1.out) rfl (by omega)).mono ?_
    rw [KR1.out]
    rintro e w4 ⟨rfl, g4⟩
    have G4 := Lib.hid (G3.out.trans g4)
    replace O1 := Lib.hid (own_G O1.out g4)
    replace O2 := Lib.hid (own_G O2.out g4)
    clear g4
    dsimp only
    go_wp2_with fail
    refine (iRealOf_any B2 R.1.length cb2 R.1 x _ (rd_own (by decide) cHold_len O2.out) rfl (by omega)).mono ?_
    rw [KR2.out]
    rintro e w5 ⟨rfl, g5⟩
    have G5 := Lib.hid (G4.out.trans g5)
    replace O1 := Lib.hid (own_G O1.out g5)
    replace O2 := Lib.hid (own_G O2.out g5)
    clear g5
    dsimp only
    go_wp2_with fail
    refine (sValidHolds_any B2 R.1.length cb2 R.1 _ (rd_own (by decide) cHold_len O2.out) rfl (by omega)).mono ?_
    rw [HV2.out]
    rintro e w6 ⟨rfl, g6⟩
    have G6 := Lib.hid (G5.out.trans g6)
    clear g6
    dsimp only
    rw [HL2.out]
    go_wp2
    go_ret
    exact ⟨ret_bool (by simp), G6.out⟩
  have hst' : x ≤ s := by omega
  clear hst
  obtain ⟨-, -, -, -, -, -, -, k1, k2, -, -⟩ := HW.out x (by omega) (by omega)
  have kb := realL_take HV.out M.length x
  rw [List.take_length] at kb
  obtain ⟨X, HXe⟩ : ∃ X, Hid (realL M x = X) := ⟨_, rfl⟩
  rw [HXe.out] at k1 k2 kb
  have KR1 := Lib.hid k1
  have KR2 := Lib.hid (show realR R.1 x = (X, 0) by rw [k2, if_neg (by omega), Int.add_zero])
  clear k1 k2
  go_wp2_with fail
  refine (iRealOf_any B M.length cb M x _ (rd_own (by decide) cHold_len O1.out) rfl (by omega)).mono ?_
  rw [KR1.out]
  rintro e w4 ⟨rfl, g4⟩
  have G4 := Lib.hid (G3.out.trans g4)
  replace O1 := Lib.hid (own_G O1.out g4)
  replace O2 := Lib.hid (own_G O2.out g4)
  clear g4
  dsimp only
  go_wp2_with fail
  refine (iRealOf_any B2 R.1.length cb2 R.1 x _ (rd_own (by decide) cHold_len O2.out) rfl (by omega)).mono ?_
  rw [KR2.out]
  rintro e w5 ⟨rfl, g5⟩
  have G5 := Lib.hid (G4.out.trans g5)
  replace O1 := Lib.hid (own_G O1.out g5)
  replace O2 := Lib.hid (own_G O2.out g5)
  clear g5
  dsimp only
  go_wp2_with fail
  refine (sValidHolds_any B2 R.1.length cb2 R.1 _ (rd_own (by decide) cHold_len O2.out) rfl (by omega)).mono ?_
  rw [HV2.out]
  rintro e w6 ⟨rfl, g6⟩
  have G6 := Lib.hid (G5.out.trans g6)
  clear g6
  dsimp only
  rw [HL2.out]
  go_wp2
  go_ret
  exact ⟨ret_bool (by simp), G6.out⟩
end Go.Proofs.Ytfdghdnnjhilgaa
