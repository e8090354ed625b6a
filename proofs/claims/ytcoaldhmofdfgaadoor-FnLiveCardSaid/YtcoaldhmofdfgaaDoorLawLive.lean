/-
  The law FnLive, walked.
-/
import Derived.Test.YtcoaldhmofdfgaaDoorDrawShow
import Derived.Test.YtcoaldhmofdfgaaDoorLiveL
import Derived.Test.YtcoaldhmofdfgaaDoorShowOf
import Derived.Test.YtcoaldhmofdfgaaDoorB10
import Derived.Test.YtcoaldhmofdfgaaDoorRdHt
namespace Go.Proofs.YtcoaldhmofdfgaaDoor
open Go.RowKit

set_option maxRecDepth 20000 in
set_option maxHeartbeats 4000000 in
theorem lawFnLive (A0 : Option Addr) (n0 c0 : Nat) (z0 : List Int) (w : World) (hE : Env w) (h0 : IsRow .u8 w A0 n0 c0 z0) :
    Calls Tryd.prog 6 #[.slice A0 n0 c0] w fun e w' => e = .returned (.bool true) ∧ Below w.heap.size w w' := by
  have HE := Lib.hid hE
  clear hE
  by_cases hb0 : n0 ≤ 1048576
  case neg =>
    clear h0
    go_enter Tryd.func6, Tryd.ntmps6
    go_wp2
    go_ret
    exact ⟨rfl, G.refl _⟩
  obtain ⟨hc0, hl0⟩ := code_of_isRow h0 hb0
  have K0 := Lib.hid (DrawShowOf_any A0 n0 c0 _ w hc0 hl0)
  clear h0 hc0 hl0
  go_enter Tryd.func6, Tryd.ntmps6
  go_wp2_with fail
  refine (b10Long_no A0 n0 c0 _ hb0).mono ?_
  rintro e w' ⟨rfl, rfl⟩
  dsimp only
  go_wp2_with fail
  refine K0.out.mono ?_
  rintro e w1 ⟨B, cb, M, r, rfl, hM, g1, o1⟩
  have G1 := Lib.hid g1
  have O1 := Lib.hid o1
  clear g1 o1 K0
  dsimp only
  go_wp2_with fail
  refine (iShowOf_any B M.length cb M r _ (rd_own (by decide) cHold_len O1.out) rfl (by omega)).mono ?_
  obtain ⟨R, HR⟩ : ∃ R, Hid (showR M r = R) := ⟨_, rfl⟩
  rw [HR.out]
  rintro e w2 ⟨rfl, g2⟩
  have G2 := Lib.hid (G1.out.trans g2)
  replace O1 := Lib.hid (own_G O1.out g2)
  clear g2
  dsimp only
  obtain ⟨s, b, code⟩ := R
  simp only
  by_cases hz : code = 0
  case neg =>
    have hd : (code == 0) = false := by simp [hz]
    obtain ⟨h1, h2⟩ := showR_bad (L := M) (r := r) (by rw [HR.out]; exact hz)
    rw [HR.out] at h1 h2
    simp only at h1 h2
    subst h1 h2
    clear hz HR
    go_wp2
    go_ret
    exact ⟨rfl, G2.out⟩
  subst hz
  obtain ⟨hv, s', X, Y, F, b', hR, hs0, hs1, hr0, hr1, hre, hlo, hX0, hX1, hnx, hF, hF0, hF1, hbd⟩ := live_law (L := M) (r := r) (by rw [HR.out])
  rw [HR.out] at hR
  simp only [Prod.mk.injEq, and_true] at hR
  obtain ⟨rfl, rfl⟩ := hR
  have HV := Lib.hid hv
  have HRE := Lib.hid hre
  have HLO := Lib.hid hlo
  have HNX := Lib.hid hnx
  have HF := Lib.hid hF
  have HBD := Lib.hid hbd
  have HTX := Lib.hid (show htR M = htB M by unfold htR; rw [if_pos hv])
  have HRD := Lib.hid (rhR_of (show HtOf (htB M) M from ⟨hv, rfl⟩))
  have htsz : (htB M).size ≤ 1048576 := by
    by_cases hn : M = []
    · subst hn; decide
    · rw [← htK_all hn]
      have := htK_size hv M.length (Nat.le_refl _)
      omega
  clear hv hre hlo hnx hF hbd HR
  go_wp2_with fail
  refine (iRealOf_any B M.length cb M s _ (rd_own (by decide) cHold_len O1.out) rfl (by omega)).mono ?_
  rw [HRE.out]
  rintro e w3 ⟨rfl, g3⟩
  have G3 := Lib.hid (G2.out.trans g3)
  replace O1 := Lib.hid (own_G O1.out g3)
  clear g3
  dsimp only
  go_wp2_with fail
  refine (iLostTime_any B M.length cb M s _ (rd_own (by decide) cHold_len O1.out) rfl (by omega)).mono ?_
  rw [HLO.out]
  rintro e w4 ⟨rfl, g4⟩
  have G4 := Lib.hid (G3.out.trans g4)
  replace O1 := Lib.hid (own_G O1.out g4)
  clear g4
  dsimp only
  go_wp2_with fail
  refine (iHoldsText_any B M.length cb M _ (rd_own (by decide) cHold_len O1.out) rfl (by omega) (HE.out.G G4.out).tab).mono ?_
  rw [HTX.out]
  rintro e w5 ⟨rfl, g5⟩
  have G5 := Lib.hid (G4.out.trans g5)
  replace O1 := Lib.hid (own_G O1.out g5)
  clear g5
  dsimp only
  obtain ⟨T, HT⟩ : ∃ T, Hid (htB M = T) := ⟨_, rfl⟩
  rw [HT.out] at htsz HRD HTX
  rw [HT.out]
  go_wp2_with fail
  refine (iReadHolds_any T _ htsz (HE.out.G G5.out)).mono ?_
  rw [HRD.out]
  rintro e w6 ⟨B2, cb2, rfl, g6, o6⟩
  have G6 := Lib.hid (G5.out.trans g6)
  replace O1 := Lib.hid (own_G O1.out g6)
  have O2 := Lib.hid o6
  clear g6 o6
  dsimp only
  have hw1 : IntKind.i64.wrap (X - s) = X - s := IntWalk.i64_in _ (by omega)
  go_wp2_with fail
  refine (iHoldsText_any B2 M.length cb2 M _ (rd_own (by decide) cHold_len O2.out) rfl (by omega) (HE.out.G G6.out).tab).mono ?_
  rw [HTX.out]
  rintro e w7 ⟨rfl, g7⟩
  have G7 := Lib.hid (G6.out.trans g7)
  replace O1 := Lib.hid (own_G O1.out g7)
  clear g7
  dsimp only
  go_wp2_with fail
  refine (iHoldsText_any B M.length cb M _ (rd_own (by decide) cHold_len O1.out) rfl (by omega) (HE.out.G G7.out).tab).mono ?_
  rw [HTX.out]
  rintro e w8 ⟨rfl, g8⟩
  have G8 := Lib.hid (G7.out.trans g8)
  replace O1 := Lib.hid (own_G O1.out g8)
  clear g8
  dsimp only
  have hTT : (T.toList == T.toList) = true := by simp
  by_cases h72 : s = 7200000
  · have hd72 : (s == 7200000) = true := by rw [h72]; rfl
    go_wp2
    go_ret
    exact ⟨rfl, G8.out⟩
  have hd72 : (s == 7200000) = false := by rw [beq_eq_false_iff_ne]; exact h72
  obtain ⟨hy, hry⟩ := HNX.out (by omega)
  have HY := Lib.hid hy
  clear hy h72
  go_wp2_with fail
  refine (iRealOf_any B M.length cb M (s + 1) _ (rd_own (by decide) cHold_len O1.out) rfl (by omega)).mono ?_
  rw [HY.out]
  rintro e w9 ⟨rfl, g9⟩
  have G9 := Lib.hid (G8.out.trans g9)
  replace O1 := Lib.hid (own_G O1.out g9)
  clear g9
  have RD := Lib.hid (rd_own (by decide) cHold_len O1.out)
  dsimp only
  go_wp2
  go_loopw [16, 17] (fun v i wr => ∃ (k : Nat), k ≤ M.length ∧ i = .int .i64 (k : Int) ∧ v = .int .i64 (holdF (M.take k) s) ∧ w9 = wr) (fun _ i _ => M.length - (intOf i).toNat)
  case atStart => exact ⟨0, Nat.zero_le _, rfl, rfl, rfl⟩
  case round =>
    obtain ⟨k, hk, rfl, rfl, rfl⟩ := hrel
    obtain ⟨n, Hn⟩ : ∃ n, Hid (M.length = n) := ⟨_, rfl⟩
    rw [Hn.out] at hk hM
    rw [Hn.out]
    obtain ⟨a, HA⟩ : ∃ a, Hid (holdF (M.take k) s = a) := ⟨_, rfl⟩
    rw [HA.out]
    have hk0 : (0 : Int) ≤ (k : Int) := by omega
    by_cases hlt : k < n
    · have hlt2 : (k : Int) < (n : Int) := by omega
      obtain ⟨b4, o4, x, rfl, hx, hc0, hc1⟩ := RD.out.Hold (k := k) (by rw [Hn.out]; exact hlt)
      have HS := Lib.hid (holdF_snoc hx s)
      clear hx
      by_cases hat : x.At = s
      · have hda : (x.At == s) = true := by rw [hat]; simp
        have HS2 := Lib.hid (show holdF (M.take (k + 1)) s = x.Length by rw [HS.out, if_pos hat])
        clear hat HS
        go_wp2
        go_roundw
        case rel => exact ⟨k + 1, by omega, by go_num, by rw [HS2.out], by first | rfl | trivial⟩
        case measure => first | (simp [intOf]; done) | (simp [intOf]; omega)
      · have hda : (x.At == s) = false := by rw [beq_eq_false_iff_ne]; exact hat
        have HS2 := Lib.hid (show holdF (M.take (k + 1)) s = a by rw [HS.out, if_neg hat, HA.out])
        clear hat HS
        go_wp2
        go_roundw
        case rel => exact ⟨k + 1, by omega, by go_num, by rw [HS2.out], by first | rfl | trivial⟩
        case measure => first | (simp [intOf]; done) | (simp [intOf]; omega)
    · have hak : a = F := by rw [← HA.out, ← HF.out, List.take_of_length_le (by rw [Hn.out]; omega)]
      subst hak
      have hwf : IntKind.i64.wrap (X + a) = X + a := IntWalk.i64_in _ (by omega)
      cases b
      · have hq : X + a ≤ r := by have := HBD.out; simp at this; omega
        go_wp2
        go_ret
        exact ⟨ret_bool (by first | (simp; done) | (simp; omega)), G9.out⟩
      · have hq : r < X + a := by have := HBD.out; simp at this; omega
        go_wp2
        go_ret
        exact ⟨ret_bool (by first | (simp; done) | (simp; omega)), G9.out⟩
end Go.Proofs.YtcoaldhmofdfgaaDoor
