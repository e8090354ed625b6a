/-
  The law FnUniverses, walked.
-/
import Derived.Test.YtckenipmebeopaaUniLaw
import Derived.Test.YtckenipmebeopaaUni
import Derived.Test.YtckenipmebeopaaDrawLev
import Derived.Test.YtckenipmebeopaaB10
namespace Go.Proofs.Ytckenipmebeopaa
open Go.RowKit

theorem flat_ivm (L : List Int) : L.flatMap iv = L.map (Value.int .i64) := by
  induction L with
  | nil => rfl
  | cons y L ih => rw [List.flatMap_cons, ih]; rfl
theorem flat_iv_at {L : List Int} {k : Nat} {x : Int} (h : L[k]? = some x) : (L.flatMap iv)[k]? = some (.int .i64 x) := by rw [flat_ivm, List.getElem?_map, h]; rfl
theorem lvs_all2 {L : List Int} (h : lvs L = true) : L.all (fun x => inB x 0 255) = true := by
  unfold lvs at h
  simp only [Bool.and_eq_true] at h
  exact h.2
set_option maxRecDepth 20000 in
set_option maxHeartbeats 4000000 in
theorem lawFnUniverses (A0 : Option Addr) (n0 c0 : Nat) (z0 : List Int) (A1 : Option Addr) (n1 c1 : Nat) (z1 : List Int) (w : World) (h0 : IsRow .u8 w A0 n0 c0 z0) (h1 : IsRow .u8 w A1 n1 c1 z1) :
    Calls Try.prog 3 #[.slice A0 n0 c0, .slice A1 n1 c1] w fun e w' => e = .returned (.bool true) ∧ Below w.heap.size w w' := by
  by_cases hb0 : n0 ≤ 1048576
  case neg =>
    clear h0 h1
    by_cases hb1 : n1 ≤ 1048576
    all_goals
      go_enter Try.func3, Try.ntmps3
      go_wp2
      go_ret
      exact ⟨rfl, G.refl _⟩
  by_cases hb1 : n1 ≤ 1048576
  case neg =>
    clear h0 h1
    go_enter Try.func3, Try.ntmps3
    go_wp2
    go_ret
    exact ⟨rfl, G.refl _⟩
  obtain ⟨hc0, hl0⟩ := code_of_isRow h0 hb0
  obtain ⟨hc1, _⟩ := code_of_isRow h1 hb1
  have K0 := Lib.hid (DrawUniverseLevels_any A0 n0 c0 _ w hc0 hl0)
  have HC := Lib.hid hc1
  clear h0 h1 hc0 hl0 hc1
  go_enter Try.func3, Try.ntmps3
  go_wp2_with fail
  refine (b10Long_no A0 n0 c0 _ hb0).mono ?_
  rintro e w' ⟨rfl, rfl⟩
  dsimp only
  go_wp2_with fail
  refine (b10Long_no A1 n1 c1 _ hb1).mono ?_
  rintro e w' ⟨rfl, rfl⟩
  dsimp only
  go_wp2_with fail
  refine K0.out.mono ?_
  rintro e w1 ⟨B, cb, M, B2, cb2, Z, u, rfl, hM, hcb, hwf, hZ, hrow, g1, o1, r1⟩
  have G1 := Lib.hid g1
  have O1 := Lib.hid o1
  have R1 := Lib.hid r1
  have HWF := Lib.hid hwf
  have HROW := Lib.hid hrow
  clear g1 o1 r1 K0 hwf hrow
  dsimp only
  go_wp2_with fail
  refine (iUniverseLevels_any B M.length cb M B2 Z.length cb2 Z u _ (rd_own (by decide) cFixture_len O1.out) rfl (by omega) hcb HWF.out R1.out rfl (by omega) (fun r hr => by have := HROW.out r hr; omega)).mono ?_
  obtain ⟨R, HR⟩ : ∃ R, Hid (uniR M Z u = R) := ⟨_, rfl⟩
  rw [HR.out]
  rintro e w2 ⟨B3, cb3, rfl, g2, o2⟩
  have G2 := Lib.hid (G1.out.trans g2)
  have O2 := Lib.hid o2
  replace O1 := Lib.hid (own_G O1.out g2)
  replace R1 := Lib.hid (R1.out.g g2)
  clear g2 o2
  dsimp only
  by_cases hz : R.2 = 0
  case neg =>
    have hd : (R.2 == 0) = false := by simp [hz]
    have HL := Lib.hid (show R.1.length = 0 by rw [← HR.out] at hz ⊢; rw [uniR_bad hz]; rfl)
    clear hz
    rw [HL.out]
    go_wp2
    go_ret
    exact ⟨rfl, G2.out⟩
  obtain ⟨hv, hu, hmz, hf, he, hl⟩ := uniR_ok (L := M) (M := Z) (u := u) (by rw [HR.out]; exact hz)
  have HF := Lib.hid (fun (a : Int) (h0 : 1 ≤ a) (h1 : a ≤ 512) => uni_found (a := a) hv hu hf hmz h0 h1)
  have HLV := Lib.hid (uni_lvs hv hu hf hmz)
  have HML := Lib.hid hmz
  obtain ⟨S, HS⟩ : ∃ S, Hid (uSt u (M.zip Z) = S) := ⟨_, rfl⟩
  rw [HS.out] at HF HLV he hl
  rw [HR.out] at he
  subst he
  have HSL := Lib.hid hl
  clear hz hv hu hmz hf hl HR HS
  simp only at O2 ⊢
  rw [HSL.out] at O2 ⊢
  rw [HML.out]
  obtain ⟨g3, rfl⟩ := own_some O2.out (by omega)
  go_wp2
  go_loopw [10] (fun i wr => ∃ (j : Nat), j ≤ 512 ∧ i = .int .i64 ((j : Int) + 1) ∧ Hid (G w2 wr)) (fun i _ => (513 - intOf i).toNat)
  case atStart => exact ⟨0, by omega, rfl, Lib.hid (G.refl _)⟩
  case round =>
    obtain ⟨j, hj, rfl, G0⟩ := hrel
    by_cases hlt : j < 512
    · have KA := Lib.hid (iFixtureAt_any B M.length cb M u ((j : Int) + 1) wr (rd_own (by decide) cFixture_len (own_G O1.out G0.out)) rfl (by omega) hcb HWF.out)
      have hjj : ((j : Int) + 1 - 1).toNat = j := by omega
      have hj0 : (0 : Int) ≤ (j : Int) := by omega
      have hj1 : (j : Int) < 512 := by omega
      have hj2 : (j : Int) + 1 - 1 = (j : Int) := by omega
      rcases HF.out ((j : Int) + 1) (by omega) (by omega) with ⟨k, x, r, v, i, e1, hx, hr, hxi, hil, hri, hs⟩ | ⟨e1, hs⟩
      · rw [e1] at KA
        rw [hjj] at hs
        have HX := Lib.hid hx
        have HRr := Lib.hid hr
        have HRI := Lib.hid hri
        have HSv := Lib.hid hs
        have hk : k < M.length := (List.getElem?_eq_some_iff.1 hx).1
        have hrl := HROW.out r (List.mem_of_getElem? hr)
        obtain ⟨b, o, x', rfl, hx', -, -, hc2, -⟩ := (rd_own (by decide) cFixture_len (own_G O1.out G0.out)).Fixture (k := k) hk
        rw [hx] at hx'
        cases hx'
        obtain ⟨b5, o5, r', Ai, ci, rfl, hr', hci, hcell, hrd⟩ := ((R1.out.g G0.out)).at_ (k := k) (by rw [HML.out]; exact hk)
        rw [hr] at hr'
        cases hr'
        obtain ⟨bi, oi, v', rfl, hv', hcv⟩ := hrd.int (k := i) hil
        rw [hri] at hv'
        cases hv'
        have hk0 : (0 : Int) ≤ (k : Int) := by omega
        have hk1 : (k : Int) < (M.length : Int) := by omega
        have hi1 : (i : Int) < (r.length : Int) := by omega
        have hi0 : (0 : Int) ≤ (i : Int) := by omega
        have HC2 := Lib.hid hc2
        have HC5 := Lib.hid hcell
        have HC6 := Lib.hid hcv
        clear e1 hx hr hri hs hjj hc2 hcell hcv hrd
        go_wp2_with (go_at_call 8; with_reducible refine KA.out.mono ?_; rintro e w3 ⟨rfl, p3⟩; have G3 := Lib.hid (G0.out.trans p3); have hcs := own_cellAt_mid (own_G O2.out G3.out) (flat_iv_at HSv.out); have f2 := p3.cell HC2.out; have f5 := p3.cell HC5.out; have f6 := p3.cell HC6.out; clear p3)
        go_roundw
        case rel => exact ⟨j + 1, by omega, by go_num, G3⟩
        case measure => simp [intOf]; omega
      · rw [e1] at KA
        rw [hjj] at hs
        have HSv := Lib.hid hs
        clear e1 hs hjj
        go_wp2_with (go_at_call 8; with_reducible refine KA.out.mono ?_; rintro e w3 ⟨rfl, p3⟩; have G3 := Lib.hid (G0.out.trans p3); have hcs := own_cellAt_mid (own_G O2.out G3.out) (flat_iv_at HSv.out); clear p3)
        go_roundw
        case rel => exact ⟨j + 1, by omega, by go_num, G3⟩
        case measure => simp [intOf]; omega
    · obtain rfl : j = 512 := by omega
      go_wp2_with fail
      refine (b10Wide_any A1 n1 c1 _ 0 1001 _ (HC.out.g (G2.out.trans G0.out)) (by omega) (by omega) (by omega) (by omega)).mono ?_
      rintro e w' ⟨t, ht0, ht1, rfl, rfl⟩
      dsimp only
      go_wp2_with fail
      refine (iDimLevels_any (some ⟨g3, 0, none⟩) 512 cb3 S t _ (rd_ints (own_G O2.out G0.out)) HSL.out (by omega)).mono ?_
      have HDIM := Lib.hid (show dimR S t = (dimL S t, 0) by unfold dimR; rw [if_neg (by rw [HLV.out]; simp), if_neg (by rw [inB_mk ⟨ht0, by omega⟩]; simp)])
      have HDL := Lib.hid (dimL_len S t)
      rw [HDIM.out]
      rintro e w4 ⟨B4, cb4, rfl, p4, o4⟩
      have G4 := Lib.hid (G0.out.trans p4)
      simp only at o4 ⊢
      rw [HDL.out, HSL.out] at o4
      rw [HDL.out, HSL.out]
      have O4 := Lib.hid o4
      clear p4 o4
      obtain ⟨g4, rfl⟩ := own_some O4.out (by omega)
      go_wp2
      go_loopw [18] (fun i wr => ∃ (j : Nat), j ≤ 512 ∧ i = .int .i64 (j : Int) ∧ Hid (G w4 wr)) (fun i _ => 512 - (intOf i).toNat)
      case atStart => exact ⟨0, by omega, rfl, Lib.hid (G.refl _)⟩
      case round =>
        obtain ⟨i, hi, rfl, G5⟩ := hrel
        by_cases hlt : i < 512
        · obtain ⟨v, hv⟩ : ∃ v, S[i]? = some v := ⟨_, List.getElem?_eq_getElem (by rw [HSL.out]; exact hlt)⟩
          have hvb := inB_iff.1 (List.all_eq_true.1 (lvs_all2 HLV.out) v (List.mem_of_getElem? hv))
          have hd := dim_le hvb.1 hvb.2 ht0 (by omega)
          have hdi : (dimL S t)[i]? = some (near (v * t) 1000) := by unfold dimL; rw [List.getElem?_map, hv]; rfl
          have gc1 := cellR (own_cellAt_mid (own_G O4.out G5.out) (flat_iv_at hdi))
          have gc2 := cellR (own_cellAt_mid (own_G O2.out (G4.out.trans G5.out)) (flat_iv_at hv))
          obtain ⟨y, HY⟩ : ∃ y, Hid (near (v * t) 1000 = y) := ⟨_, rfl⟩
          rw [HY.out] at gc1 hd
          have hd1 : decide (y < 0) = false := decide_eq_false (by omega)
          have hd2 : decide (v < y) = false := decide_eq_false (by omega)
          have hi0 : (0 : Int) ≤ (i : Int) := by omega
          have hi1 : (i : Int) < 512 := by omega
          clear hv hdi
          go_wp2
          refine region_quiet_G (by kernel_rfl) (by kernel_rfl) ?_; (repeat (go_big_quiet_step ((fail)))); refine wpQuiet_nil ?_
          intro w5 p5
          have G6 := Lib.hid (G5.out.trans p5)
          clear p5 gc1 gc2 hd1 hd2
          go_wp2
          go_roundw
          case rel => exact ⟨i + 1, by omega, by go_num, G6⟩
          case measure => simp [intOf]; omega
        · go_wp2
          go_ret
          exact ⟨rfl, G2.out.trans (G4.out.trans G5.out)⟩
end Go.Proofs.Ytckenipmebeopaa
