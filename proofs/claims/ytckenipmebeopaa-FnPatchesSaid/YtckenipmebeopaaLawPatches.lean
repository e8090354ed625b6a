/-
  The law FnPatches, walked.
-/
import Derived.Test.YtckenipmebeopaaPatchLaw
import Derived.Test.YtckenipmebeopaaDropFixture
import Derived.Test.YtckenipmebeopaaFixtureAt
import Derived.Test.YtckenipmebeopaaDrawUni
import Derived.Test.YtckenipmebeopaaB10
namespace Go.Proofs.Ytckenipmebeopaa
open Go.RowKit

set_option maxHeartbeats 1000000 in
theorem b10At_ex (A : Option Addr) (n c : Nat) (L : List Int) (k : Int) (w : World) (h : Code w A n L) (hk : 1 ≤ k) (hk2 : k ≤ 1000000000) :
    ∃ x : Int, (0 ≤ x ∧ x < k) ∧ ∀ W, G w W → Calls Try.prog 13 #[.slice A n c, .int .i64 0, .int .i64 k] W fun e w' => e = .returned (.int .i64 x) ∧ W = w' := by
  have hlim := h.lim
  have H := Lib.hid h
  clear h
  by_cases h1 : k ≤ 1
  · refine ⟨0, ⟨by omega, by omega⟩, fun W _ => ?_⟩
    go_enter Try.func13, Try.ntmps13
    go_wp2
    go_ret
    exact ⟨rfl, rfl⟩
  · by_cases hlt : 0 < n
    · obtain ⟨b, o, z, rfl, hx, hcz⟩ := H.out.rd.byte (k := 0) (by rw [H.out.len]; exact hlt)
      have hz := H.out.wf z (List.mem_of_getElem? hx)
      refine ⟨z % k, ⟨Int.emod_nonneg _ (by omega), Int.emod_lt_of_pos _ (by omega)⟩, fun W g => ?_⟩
      have hc := g.cell hcz
      rw [Nat.add_zero] at hc
      have hn0 : (0 : Int) < (n : Int) := by omega
      clear hx hcz
      go_enter Try.func13, Try.ntmps13
      go_wp2
      go_ret
      exact ⟨rfl, rfl⟩
    · obtain rfl : n = 0 := by omega
      refine ⟨11 % k, ⟨Int.emod_nonneg _ (by omega), Int.emod_lt_of_pos _ (by omega)⟩, fun W g => ?_⟩
      go_enter Try.func13, Try.ntmps13
      go_wp2
      go_ret
      exact ⟨rfl, rfl⟩

set_option maxRecDepth 20000 in
set_option maxHeartbeats 4000000 in
theorem lawFnPatches (A0 : Option Addr) (n0 c0 : Nat) (z0 : List Int) (A1 : Option Addr) (n1 c1 : Nat) (z1 : List Int) (w : World) (h0 : IsRow .u8 w A0 n0 c0 z0) (h1 : IsRow .u8 w A1 n1 c1 z1) :
    Calls Try.prog 4 #[.slice A0 n0 c0, .slice A1 n1 c1] w fun e w' => e = .returned (.bool true) ∧ Below w.heap.size w w' := by
  by_cases hb0 : n0 ≤ 1048576
  case neg =>
    clear h0 h1
    by_cases hb1 : n1 ≤ 1048576
    all_goals
      go_enter Try.func4, Try.ntmps4
      go_wp2
      go_ret
      exact ⟨rfl, G.refl _⟩
  by_cases hb1 : n1 ≤ 1048576
  case neg =>
    clear h0 h1
    go_enter Try.func4, Try.ntmps4
    go_wp2
    go_ret
    exact ⟨rfl, G.refl _⟩
  obtain ⟨hc0, hl0⟩ := code_of_isRow h0 hb0
  obtain ⟨hc1, hl1⟩ := code_of_isRow h1 hb1
  have K0 := Lib.hid (DrawAddFixture_any A0 n0 c0 _ w hc0 hl0)
  have HC := Lib.hid hc1
  have KF := Lib.hid (fun (W : World) (g : G w W) => DrawFreeAddress_any A1 n1 c1 _ W (hc1.g g) (fun a ha hl => Nat.lt_of_lt_of_le (hl1 a ha hl) g.size))
  clear h0 h1 hc0 hl0 hc1 hl1
  go_enter Try.func4, Try.ntmps4
  go_wp2_with fail
  refine (b10Long_no A0 n0 c0 _ hb0).mono ?_
  rintro e w' ⟨rfl, rfl⟩
  dsimp only
  go_wp2_with fail
  refine (b10Long_no A1 n1 c1 _ hb1).mono ?_
  rintro e w' ⟨rfl, rfl⟩
  dsimp only
  go_wp2_with fail
  refine K0.out.mono ?_
  rintro e w1 ⟨B, cb, M, f, rfl, hM, hcb, hwf, hf, g1, o1⟩
  have G1 := Lib.hid g1
  have O1 := Lib.hid o1
  have HWF := Lib.hid hwf
  have HF := Lib.hid hf
  clear g1 o1 K0 hwf hf
  dsimp only
  have gx := (G.refl w1).alloc (.cells #[.string f.Name, .int .i64 f.Universe, .int .i64 f.Address, .int .i64 f.Width] 34)
  have OF := Lib.hid (own_new (w := w1) (base := w1.heap.size) (n := 1) (cap := 1) (size := 4) (e := 34) (cur := #[.string f.Name, .int .i64 f.Universe, .int .i64 f.Address, .int .i64 f.Width]) (Nat.le_refl _) (by decide) (by decide) rfl)
  have C0 := Lib.hid (own_cellAt_mid OF.out (j := 0) rfl)
  have C1 := Lib.hid (own_cellAt_mid OF.out (j := 1) rfl)
  have C2 := Lib.hid (own_cellAt_mid OF.out (j := 2) rfl)
  have C3 := Lib.hid (own_cellAt_mid OF.out (j := 3) rfl)
  replace O1 := Lib.hid (own_G O1.out gx)
  replace G1 := Lib.hid (G1.out.trans gx)
  clear gx OF
  go_wp2_with fail
  refine (iAddFixture_any B M.length cb M f _ (rd_own (by decide) cFixture_len O1.out) rfl (by omega) hcb HWF.out HF.out).mono ?_
  have hlR := addFR_len1 (L := M) (f := f)
  have HWR := Lib.hid (addFR_wf (L := M) (f := f) HWF.out HF.out)
  obtain ⟨R, HR⟩ : ∃ R, Hid (addFR M f = R) := ⟨_, rfl⟩
  rw [HR.out] at hlR HWR
  rw [HR.out]
  rintro e w2 ⟨B2, cb2, rfl, g2, o2⟩
  have G2 := Lib.hid (G1.out.trans g2)
  have O2 := Lib.hid o2
  replace O1 := Lib.hid (own_G O1.out g2)
  replace C0 := Lib.hid (g2.cell C0.out)
  replace C1 := Lib.hid (g2.cell C1.out)
  replace C2 := Lib.hid (g2.cell C2.out)
  replace C3 := Lib.hid (g2.cell C3.out)
  clear g2 o2
  dsimp only
  by_cases hz : R.2 = 0
  case neg =>
    have hdz : (R.2 == 0) = false := by simp [hz]
    have GG := G2
    clear hz
    go_wp2_with fail
    refine (KF.out _ GG.out).mono ?_
    rintro e y1 ⟨D, cd, Q, u, wd, rfl, hQ, hcd, hwq, p1, q1⟩
    have P1 := Lib.hid (GG.out.trans p1)
    have Q1 := Lib.hid q1
    have HWQ := Lib.hid hwq
    clear p1 q1 hwq
    dsimp only
    go_wp2_with fail
    refine (iFreeAddress_any D Q.length cd Q u wd _ (rd_own (by decide) cFixture_len Q1.out) rfl (by omega) hcd HWQ.out).mono ?_
    obtain ⟨S, HS⟩ : ∃ S, Hid (freeR Q u wd = S) := ⟨_, rfl⟩
    rw [HS.out]
    rintro e y2 ⟨rfl, p2⟩
    have P2 := Lib.hid (P1.out.trans p2)
    replace Q1 := Lib.hid (own_G Q1.out p2)
    clear p2
    dsimp only
    by_cases hs : S.2 = 0
    case neg =>
      have hd : (S.2 != 0) = true := by simp [hs]
      have HB := Lib.hid (show S.1 = 0 by rw [← HS.out] at hs ⊢; exact freeR_bad hs)
      clear hs
      rw [HB.out]
      go_wp2
      go_ret
      exact ⟨rfl, P2.out⟩
    have hd : (S.2 != 0) = false := by simp [hs]
    obtain ⟨hvq, hvn, hsh⟩ := freeR_ok (L := Q) (u := u) (wd := wd) (by rw [HS.out]; exact hs)
    rw [HS.out] at hvn hsh
    obtain ⟨a, HA⟩ : ∃ a, Hid (S.1 = a) := ⟨_, rfl⟩
    rw [HA.out] at hvn hsh
    rw [HA.out]
    have HVN := Lib.hid hvn
    have HSH := Lib.hid hsh
    have hnw : WfFixture ⟨newName, u, a, wd⟩ := show (3 : Nat) ≤ maxLen by decide
    clear hs hvq hvn hsh
    have OF2 := Lib.hid (own_new (w := y2) (base := y2.heap.size) (n := 1) (cap := 1) (size := 4) (e := 34) (cur := #[.string ⟨#[110, 101, 119]⟩, .int .i64 u, .int .i64 a, .int .i64 wd]) (Nat.le_refl _) (by decide) (by decide) rfl)
    have px := (G.refl y2).alloc (.cells #[.string ⟨#[110, 101, 119]⟩, .int .i64 u, .int .i64 a, .int .i64 wd] 34)
    have P3 := Lib.hid (P2.out.trans px)
    replace Q1 := Lib.hid (own_G Q1.out px)
    clear px
    have hc0 := own_cellAt_mid OF2.out (j := 0) rfl
    have hc1 := own_cellAt_mid OF2.out (j := 1) rfl
    have hc2 := own_cellAt_mid OF2.out (j := 2) rfl
    have hc3 := own_cellAt_mid OF2.out (j := 3) rfl
    go_wp2_with fail
    refine (sValidFixture_any ⟨newName, u, a, wd⟩ _ hnw).mono ?_
    rw [HVN.out]
    rintro e y3 ⟨rfl, p3⟩
    have P4 := Lib.hid (P3.out.trans p3)
    replace Q1 := Lib.hid (own_G Q1.out p3)
    have D0 := Lib.hid (p3.cell hc0)
    have D1 := Lib.hid (p3.cell hc1)
    have D2 := Lib.hid (p3.cell hc2)
    have D3 := Lib.hid (p3.cell hc3)
    clear p3 hc0 hc1 hc2 hc3 hd
    dsimp only
    go_wp2
    go_loopw [22] (fun i wr => ∃ (j : Nat), j ≤ Q.length ∧ i = .int .i64 j ∧ Hid (G y3 wr)) (fun i _ => Q.length - (intOf i).toNat)
    case atStart => exact ⟨0, Nat.zero_le _, rfl, Lib.hid (G.refl _)⟩
    case round =>
      obtain ⟨j, hj, rfl, G0⟩ := hrel
      by_cases hlt : j < Q.length
      · obtain ⟨b, o, x, rfl, hx, hc0, hc1, hc2, hc3⟩ := (rd_own (by decide) cFixture_len (own_G Q1.out G0.out)).Fixture (k := j) hlt
        have hj0 : (0 : Int) ≤ (j : Int) := by omega
        have hj1 : (j : Int) < (Q.length : Int) := by omega
        have gx0 := cellR hc0
        have gx1 := cellR hc1
        have gx2 := cellR hc2
        have gx3 := cellR hc3
        have gn0 := cellR (G0.out.cell D0.out)
        have gn1 := cellR (G0.out.cell D1.out)
        have gn2 := cellR (G0.out.cell D2.out)
        have gn3 := cellR (G0.out.cell D3.out)
        have KS := Lib.hid (fun (W : World) => iSharedAddresses_any x ⟨newName, u, a, wd⟩ W (HWQ.out x (List.mem_of_getElem? hx)) hnw)
        rw [HSH.out x (List.mem_of_getElem? hx)] at KS
        clear hx hc0 hc1 hc2 hc3
        go_wp2
        refine region_quiet_G (by kernel_rfl) (by kernel_rfl) ?_; (repeat (go_big_quiet_step (((go_at_call 16; exact quiet_G (KS.out _)))))); refine wpQuiet_nil ?_
        intro y4 p4
        have G4 := Lib.hid (G0.out.trans p4)
        clear p4 gx0 gx1 gx2 gx3 gn0 gn1 gn2 gn3 KS
        go_wp2
        go_roundw
        case rel => exact ⟨j + 1, by omega, by go_num, G4⟩
        case measure => simp [intOf]; omega
      · go_wp2
        go_ret
        exact ⟨rfl, P4.out.trans G0.out⟩
  have hdz : (R.2 == 0) = true := by simp [hz]
  obtain ⟨hv, hvf, -, hany, hl16, he⟩ := addFR_ok (L := M) (f := f) (by rw [HR.out]; exact hz)
  have HVN := Lib.hid (vfs_add hv hvf (by obtain ⟨-, -, h, -⟩ := addFR_ok (L := M) (f := f) (by rw [HR.out]; exact hz); exact h) hany hl16)
  have hfb := vfB_bd hvf
  rw [HR.out] at he
  have HFND := Lib.hid (fun (d : Int) (h0 : 0 ≤ d) (h1 : d < f.Width) => add_found HVN.out hvf h0 h1)
  have HDRP := Lib.hid (add_drop HVN.out)
  have HSH1 := Lib.hid (fun (x : SFixture) (hx : x ∈ M) => add_shared hv hvf hany hx)
  have HMID := Lib.hid (addFL_mid (L := M) (f := f))
  have hp := posF_le (L := M) (f := f)
  have hnl := addFL_len M f
  obtain ⟨N, HN⟩ : ∃ N, Hid (addFL M f = N) := ⟨_, rfl⟩
  rw [HN.out] at HVN HFND HDRP HMID hnl he
  have hnl1 : N.length ≤ M.length + 1 := by omega
  have hnl2 : M.length + 1 ≤ N.length := by omega
  clear hnl
  subst he
  simp only at O2 HWR hdz ⊢
  have hcb2 := (own_cap O2.out).1
  obtain ⟨b2, rfl⟩ := own_some O2.out (by omega)
  obtain ⟨p, HPP⟩ : ∃ p, Hid (posF M f = p) := ⟨_, rfl⟩
  rw [HPP.out] at HFND HMID hp
  obtain ⟨d, hd0, KB⟩ := b10At_ex A1 n1 c1 _ f.Width w2 (HC.out.g G2.out) hfb.2.2.1 (by omega)
  have KBH := Lib.hid KB
  have hwd : IntKind.i64.wrap (f.Address + d) = f.Address + d := IntWalk.i64_in _ (by omega)
  have KA := Lib.hid (fun (W : World) (g : G w2 W) => iFixtureAt_any (some ⟨b2, 0, none⟩) N.length cb2 N f.Universe (f.Address + d) W (rd_own (by decide) cFixture_len (own_G O2.out g)) rfl (by omega) hcb2 HWR.out)
  rw [HFND.out d hd0.1 hd0.2] at KA
  clear KB hz hv hvf hany hl16
  have gf1 := cellR C1.out
  have gf2 := cellR C2.out
  have gf3 := cellR C3.out
  go_wp2
  refine region_quiet_G (by kernel_rfl) (by kernel_rfl) ?_; (repeat (go_big_quiet_step (((first | (go_at_call 13; with_reducible exact quiet_G_same (KBH.out _ (G.regrown _ _ _))) | (go_at_call 8; with_reducible exact quiet_G (KA.out _ (G.regrown _ _ _)))))))); refine wpQuiet_nil ?_
  intro w3 g3
  have G3 := Lib.hid (G2.out.trans g3)
  have g3h := Lib.hid g3
  clear g3 gf1 gf2 gf3 hwd
  have hc0 := g3h.out.cell C0.out
  go_wp2_with fail
  refine (iDropFixture_any (some ⟨b2, 0, none⟩) N.length cb2 N f.Name _ (rd_own (by decide) cFixture_len (own_G O2.out g3h.out)) rfl (by omega) hcb2 HWR.out HF.out).mono ?_
  rw [HDRP.out]
  rintro e w4 ⟨B5, cb5, rfl, g4, o4⟩
  simp only at o4 ⊢
  have K4 := Lib.hid (g3h.out.trans g4)
  have G4 := Lib.hid (G3.out.trans g4)
  have O4 := Lib.hid o4
  clear g4 o4 hc0
  have KV := Lib.hid (fun (W : World) (g : G w4 W) => sValidFixtures_any (some ⟨b2, 0, none⟩) N.length cb2 N W (rd_own (by decide) cFixture_len (own_G O2.out (K4.out.trans g))) rfl (by omega) hcb2 HWR.out)
  rw [HVN.out] at KV
  obtain ⟨bb, oo, xx, e1, hx, hc0, hc1, hc2, hc3⟩ := (rd_own (by decide) cFixture_len (own_G O2.out K4.out)).Fixture (k := p) (by omega)
  cases e1
  rw [HMID.out] at hx
  cases hx
  simp only [Nat.zero_add] at hc0 hc1 hc2 hc3
  have gx0 := cellR hc0
  have gx1 := cellR hc1
  have gx2 := cellR hc2
  have gx3 := cellR hc3
  have gf0 := cellR (K4.out.cell C0.out)
  have gf1 := cellR (K4.out.cell C1.out)
  have gf2 := cellR (K4.out.cell C2.out)
  have gf3 := cellR (K4.out.cell C3.out)
  have hp0 : (0 : Int) ≤ (p : Int) := by omega
  have hp1 : (p : Int) < (N.length : Int) := by omega
  have hd1 : decide ((p : Int) < 0) = false := decide_eq_false (by omega)
  have hd2 : decide ((N.length : Int) ≤ (p : Int)) = false := decide_eq_false (by omega)
  have hd3 : ((M.length : Int) != (M.length : Int)) = false := by simp
  have hd4 : decide (N.length ≤ p) = false := decide_eq_false (by omega)
  clear hc0 hc1 hc2 hc3
  go_wp2
  refine region_quiet_G (by kernel_rfl) (by kernel_rfl) ?_; (repeat (go_big_quiet_step (((go_at_call 15; with_reducible exact quiet_G (KV.out _ (G.regrown _ _ _))))))); refine wpQuiet_nil ?_
  intro w5 g5
  have K5 := Lib.hid (K4.out.trans g5)
  have G5 := Lib.hid (G4.out.trans g5)
  have O5 := Lib.hid (own_G O4.out g5)
  clear g5 gx0 gx1 gx2 gx3 gf0 gf1 gf2 gf3 hd1 hd2 hd4 KV
  go_wp2
  go_loopw [13] (fun i wr => ∃ (j : Nat), j ≤ M.length ∧ i = .int .i64 j ∧ Hid (G w5 wr)) (fun i _ => M.length - (intOf i).toNat)
  case atStart => exact ⟨0, Nat.zero_le _, rfl, Lib.hid (G.refl _)⟩
  case round =>
    obtain ⟨j, hj, rfl, G0⟩ := hrel
    by_cases hlt : j < M.length
    · obtain ⟨b, o, x, rfl, hx, hc0, hc1, hc2, hc3⟩ := (rd_own (by decide) cFixture_len (own_G O1.out (K5.out.trans G0.out))).Fixture (k := j) hlt
      obtain ⟨b6, o6, y, rfl, hy, he0, he1, he2, he3⟩ := (rd_own (by decide) cFixture_len (own_G O5.out G0.out)).Fixture (k := j) hlt
      rw [hx] at hy
      cases hy
      have hj0 : (0 : Int) ≤ (j : Int) := by omega
      have hj1 : (j : Int) < (M.length : Int) := by omega
      have KS := Lib.hid (fun (W : World) => iSharedAddresses_any x f W (HWF.out x (List.mem_of_getElem? hx)) HF.out)
      rw [HSH1.out x (List.mem_of_getElem? hx)] at KS
      have HE0 := Lib.hid he0
      have HE1 := Lib.hid he1
      have HE2 := Lib.hid he2
      have HE3 := Lib.hid he3
      have HC0 := Lib.hid hc0
      have HC1 := Lib.hid hc1
      have HC2 := Lib.hid hc2
      have HC3 := Lib.hid hc3
      have gx0 := cellR hc0
      have gx1 := cellR hc1
      have gx2 := cellR hc2
      have gx3 := cellR hc3
      have gn0 := cellR (G0.out.cell (K5.out.cell C0.out))
      have gn1 := cellR (G0.out.cell (K5.out.cell C1.out))
      have gn2 := cellR (G0.out.cell (K5.out.cell C2.out))
      have gn3 := cellR (G0.out.cell (K5.out.cell C3.out))
      clear hx hc0 hc1 hc2 hc3 he0 he1 he2 he3
      go_wp2
      refine region_quiet_G (by kernel_rfl) (by kernel_rfl) ?_; (repeat (go_big_quiet_step (((go_at_call 16; exact quiet_G (KS.out _)))))); refine wpQuiet_nil ?_
      intro w6 g6
      clear gx0 gx1 gx2 gx3 gn0 gn1 gn2 gn3 KS
      have G6 := Lib.hid (G0.out.trans g6)
      have gx0 := cellR (g6.cell HC0.out)
      have gx1 := cellR (g6.cell HC1.out)
      have gx2 := cellR (g6.cell HC2.out)
      have gx3 := cellR (g6.cell HC3.out)
      have gn0 := cellR (g6.cell HE0.out)
      have gn1 := cellR (g6.cell HE1.out)
      have gn2 := cellR (g6.cell HE2.out)
      have gn3 := cellR (g6.cell HE3.out)
      clear g6
      go_wp2
      refine region_quiet_G (by kernel_rfl) (by kernel_rfl) ?_; (repeat (go_big_quiet_step ((fail)))); refine wpQuiet_nil ?_
      intro w7 g7
      have G7 := Lib.hid (G6.out.trans g7)
      clear g7 gx0 gx1 gx2 gx3 gn0 gn1 gn2 gn3
      go_wp2
      go_roundw
      case rel => exact ⟨j + 1, by omega, by go_num, G7⟩
      case measure => first | (simp [intOf]; done) | (simp [intOf]; omega)
    · have GG := Lib.hid (G5.out.trans G0.out)
      clear HMID
      go_wp2_with fail
      refine (KF.out _ GG.out).mono ?_
      rintro e y1 ⟨D, cd, Q, u, wd, rfl, hQ, hcd, hwq, p1, q1⟩
      have P1 := Lib.hid (GG.out.trans p1)
      have Q1 := Lib.hid q1
      have HWQ := Lib.hid hwq
      clear p1 q1 hwq
      dsimp only
      go_wp2_with fail
      refine (iFreeAddress_any D Q.length cd Q u wd _ (rd_own (by decide) cFixture_len Q1.out) rfl (by omega) hcd HWQ.out).mono ?_
      obtain ⟨S, HS⟩ : ∃ S, Hid (freeR Q u wd = S) := ⟨_, rfl⟩
      rw [HS.out]
      rintro e y2 ⟨rfl, p2⟩
      have P2 := Lib.hid (P1.out.trans p2)
      replace Q1 := Lib.hid (own_G Q1.out p2)
      clear p2
      dsimp only
      by_cases hs : S.2 = 0
      case neg =>
        have hd : (S.2 != 0) = true := by simp [hs]
        have HB := Lib.hid (show S.1 = 0 by rw [← HS.out] at hs ⊢; exact freeR_bad hs)
        clear hs
        rw [HB.out]
        go_wp2
        go_ret
        exact ⟨rfl, P2.out⟩
      have hd : (S.2 != 0) = false := by simp [hs]
      obtain ⟨hvq, hvn, hsh⟩ := freeR_ok (L := Q) (u := u) (wd := wd) (by rw [HS.out]; exact hs)
      rw [HS.out] at hvn hsh
      obtain ⟨a, HA⟩ : ∃ a, Hid (S.1 = a) := ⟨_, rfl⟩
      rw [HA.out] at hvn hsh
      rw [HA.out]
      have HVN := Lib.hid hvn
      have HSH := Lib.hid hsh
      have hnw : WfFixture ⟨newName, u, a, wd⟩ := show (3 : Nat) ≤ maxLen by decide
      clear hs hvq hvn hsh
      have OF2 := Lib.hid (own_new (w := y2) (base := y2.heap.size) (n := 1) (cap := 1) (size := 4) (e := 34) (cur := #[.string ⟨#[110, 101, 119]⟩, .int .i64 u, .int .i64 a, .int .i64 wd]) (Nat.le_refl _) (by decide) (by decide) rfl)
      have px := (G.refl y2).alloc (.cells #[.string ⟨#[110, 101, 119]⟩, .int .i64 u, .int .i64 a, .int .i64 wd] 34)
      have P3 := Lib.hid (P2.out.trans px)
      replace Q1 := Lib.hid (own_G Q1.out px)
      clear px
      have hc0 := own_cellAt_mid OF2.out (j := 0) rfl
      have hc1 := own_cellAt_mid OF2.out (j := 1) rfl
      have hc2 := own_cellAt_mid OF2.out (j := 2) rfl
      have hc3 := own_cellAt_mid OF2.out (j := 3) rfl
      go_wp2_with fail
      refine (sValidFixture_any ⟨newName, u, a, wd⟩ _ hnw).mono ?_
      rw [HVN.out]
      rintro e y3 ⟨rfl, p3⟩
      have P4 := Lib.hid (P3.out.trans p3)
      replace Q1 := Lib.hid (own_G Q1.out p3)
      have D0 := Lib.hid (p3.cell hc0)
      have D1 := Lib.hid (p3.cell hc1)
      have D2 := Lib.hid (p3.cell hc2)
      have D3 := Lib.hid (p3.cell hc3)
      clear p3 hc0 hc1 hc2 hc3 hd
      dsimp only
      go_wp2
      go_loopw [22] (fun i wz => ∃ (j : Nat), j ≤ Q.length ∧ i = .int .i64 j ∧ Hid (G y3 wz)) (fun i _ => Q.length - (intOf i).toNat)
      case atStart => exact ⟨0, Nat.zero_le _, rfl, Lib.hid (G.refl _)⟩
      case round =>
        obtain ⟨j, hj, rfl, G0⟩ := hrel
        by_cases hlt : j < Q.length
        · obtain ⟨b, o, x, rfl, hx, hc0, hc1, hc2, hc3⟩ := (rd_own (by decide) cFixture_len (own_G Q1.out G0.out)).Fixture (k := j) hlt
          have hj0 : (0 : Int) ≤ (j : Int) := by omega
          have hj1 : (j : Int) < (Q.length : Int) := by omega
          have gx0 := cellR hc0
          have gx1 := cellR hc1
          have gx2 := cellR hc2
          have gx3 := cellR hc3
          have gn0 := cellR (G0.out.cell D0.out)
          have gn1 := cellR (G0.out.cell D1.out)
          have gn2 := cellR (G0.out.cell D2.out)
          have gn3 := cellR (G0.out.cell D3.out)
          have KS := Lib.hid (fun (W : World) => iSharedAddresses_any x ⟨newName, u, a, wd⟩ W (HWQ.out x (List.mem_of_getElem? hx)) hnw)
          rw [HSH.out x (List.mem_of_getElem? hx)] at KS
          clear hx hc0 hc1 hc2 hc3
          go_wp2
          refine region_quiet_G (by kernel_rfl) (by kernel_rfl) ?_; (repeat (go_big_quiet_step (((go_at_call 16; exact quiet_G (KS.out _)))))); refine wpQuiet_nil ?_
          intro y4 p4
          have G4 := Lib.hid (G0.out.trans p4)
          clear p4 gx0 gx1 gx2 gx3 gn0 gn1 gn2 gn3 KS
          go_wp2
          go_roundw
          case rel => exact ⟨j + 1, by omega, by go_num, G4⟩
          case measure => simp [intOf]; omega
        · go_wp2
          go_ret
          exact ⟨rfl, P4.out.trans G0.out⟩

end Go.Proofs.Ytckenipmebeopaa
