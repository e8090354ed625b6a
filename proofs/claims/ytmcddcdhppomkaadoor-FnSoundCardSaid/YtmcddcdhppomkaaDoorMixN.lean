/-
  Walks: MixSamples, by the program's text.
-/
import Derived.Test.YtmcddcdhppomkaaDoorMixRN
import Derived.BigRegion
import Derived.RegionTactic
import Derived.Deep.RegionWith
import Derived.Deep.DeepCutAuto
import Derived.Deep.CutRange
namespace Go.Proofs.YtmcddcdhppomkaaDoor
open Go.RowKit

set_option maxRecDepth 20000 in
set_option maxHeartbeats 4000000 in
theorem iMixSamples_any (A : Option Addr) (n c : Nat) (L : List SChannel) (B : Option Addr) (m d : Nat) (M : List (List Int)) (w : World) (ht : Tab w) (hr : Rd w A 4 cChannel L) (hn : L.length = n) (hb : n ≤ 4194304) (hwf : ∀ x ∈ L, WfChannel x) (hr2 : RdR w B M) (hm : M.length = m) (hmb : m ≤ 4194304) (hrow : ∀ r ∈ M, r.length ≤ 1048576) :
    Calls Tryd.prog 14 #[.slice A n c, .slice B m d] w (Res2 w 2 (mixR L M)) := by
  have K := Lib.hid (ValidChannels_any A n c L w hr hn hb hwf)
  have Hn := Lib.hid hn
  have HR := Lib.hid hr
  have Hm := Lib.hid hm
  have HR2 := Lib.hid hr2
  have HRW := Lib.hid hrow
  have s0 : w.heap.size ≤ w.heap.size := Nat.le_refl _
  clear hr hn hwf hr2 hm hrow
  have HTab := Lib.hid ht
  clear ht
  cases hv : vcs L
  · have H := Lib.hid (show mixR L M = ([], [], 1) by unfold mixR; rw [if_pos hv])
    rw [hv] at K
    clear hv
    go_enter Tryd.func14, Tryd.ntmps14
    go_wp2_with (go_at_call 33; with_reducible refine K.out.mono ?_; rintro e w1 ⟨rfl, g1⟩; have G1 := Lib.hid g1; have s1 := g1.size; clear g1)
    go_ret3
    exact res2_nil H.out G1.out
  rw [hv] at K
  have HF := Lib.hid (show mixR L M = if M.all vs = false then ([], [], 1) else if M.length = L.length then (mxL panC L M, mxL panS L M, 0) else ([], [], 7) by unfold mixR; rw [if_neg (by rw [hv]; simp)])
  have HV := Lib.hid hv
  have hn8 := vcs_len HV.out
  rw [Hn.out] at hn8
  clear hv
  go_enter Tryd.func14, Tryd.ntmps14
  go_wp2_with (go_at_call 33; with_reducible refine K.out.mono ?_; rintro e w1 ⟨rfl, g1⟩; have G1 := Lib.hid g1; have s1 := g1.size; clear g1)
  clear K
  go_loopw [27, 7] (fun i v wr => ∃ (k q : Nat), k ≤ m ∧ i = .int .i64 k ∧ v = .int .i64 q ∧ Hid (mostL (M.take k) = q) ∧ Hid ((M.take k).all vs = true) ∧ Hid (G w wr)) (fun i _ _ => m - (intOf i).toNat)
  case atStart => exact ⟨0, 0, Nat.zero_le _, rfl, rfl, Lib.hid rfl, Lib.hid (by simp), G1⟩
  case round =>
    obtain ⟨k, q, hk, rfl, rfl, HQ, HA, G0⟩ := hrel
    have hsz := G0.out.size
    have hq64 := mostL_pre HA.out
    rw [HQ.out] at hq64
    by_cases hlt : k < m
    · obtain ⟨b2, o2, r, Ai, ci, rfl, hrk, _, hcr, hrd⟩ := (HR2.out.g G0.out).at_ (k := k) (by rw [Hm.out]; exact hlt)
      have hrl := HRW.out r (List.mem_of_getElem? hrk)
      have HX := Lib.hid hrk
      have KL := Lib.hid (validSamples_any Ai r.length ci r wr hrd rfl (by omega))
      clear hrk hrd
      cases hl : vs r
      · have H := Lib.hid (show mixR L M = ([], [], 1) by rw [HF.out, if_pos (all_false HX.out hl)])
        rw [hl] at KL
        clear hl
        go_wp2_with (go_at_call 21; with_reducible refine KL.out.mono ?_; rintro e w2 ⟨rfl, rfl⟩)
        go_ret3
        exact res2_nil H.out G0.out
      · have HA2 := Lib.hid (all_snoc HX.out HA.out hl)
        have HQ2 := Lib.hid (show mostL (M.take (k + 1)) = max q r.length by rw [mostL_snoc HX.out, HQ.out])
        rw [hl] at KL
        clear hl
        go_wp2_with (go_at_call 21; with_reducible refine KL.out.mono ?_; rintro e w2 ⟨rfl, rfl⟩)
        go_roundw
        case rel => exact ⟨k + 1, max q r.length, by omega, by go_num, congrArg (Value.int .i64) (by omega), HQ2, HA2, G0⟩
        case measure => simp [intOf]; omega
    · obtain rfl : k = m := by omega
      have HALL := Lib.hid (show M.all vs = true from all_take_all (by rw [Hm.out]; exact Nat.le_refl _) HA.out)
      have HQM := Lib.hid (show mostL M = q by have h := HQ.out; rwa [List.take_of_length_le (by rw [Hm.out]; exact Nat.le_refl _)] at h)
      replace HF := Lib.hid (show mixR L M = if M.length = L.length then (mxL panC L M, mxL panS L M, 0) else ([], [], 7) by rw [HF.out, if_neg (by rw [HALL.out]; simp)])
      clear HQ HA hk hlt
      by_cases hmn : k = n
      case neg =>
        have H := Lib.hid (show mixR L M = ([], [], 7) by rw [HF.out, if_neg (by rw [Hm.out, Hn.out]; exact hmn)])
        have hd : ((k : Int) == (n : Int)) = false := by simp; omega
        have hd2 : ((k : Int) != (n : Int)) = true := by simp; omega
        go_wp2
        go_ret3
        exact res2_nil H.out G0.out
      subst hmn
      have H := Lib.hid (show mixR L M = (mxL panC L M, mxL panS L M, 0) by rw [HF.out, if_pos (by rw [Hm.out, Hn.out])])
      obtain ⟨cs, hcs, hcl, hmk⟩ := make_ints q hq64
      have HC := Lib.hid hcs
      have HCL := Lib.hid hcl
      clear hcs hcl HF
      go_upto_region 13 with (fail)
      go_cut [10, 11] (fun s10 s11 wx => ∃ g1 g2 : Nat, s10 = .slice (some ⟨g1, 0, none⟩) q q ∧ s11 = .slice (some ⟨g2, 0, none⟩) q q ∧ g1 ≠ g2 ∧ w.heap.size ≤ g1 ∧ w.heap.size ≤ g2 ∧ Hid (wx.ownsRow w.heap.size 2 1 (.slice (some ⟨g1, 0, none⟩) q q) q ((List.replicate q (0 : Int)).flatMap iv)) ∧ Hid (wx.ownsRow w.heap.size 2 1 (.slice (some ⟨g2, 0, none⟩) q q) q ((List.replicate q (0 : Int)).flatMap iv)) ∧ Hid (G w wx))
      case first =>
        have OA := Lib.hid (fun (W : World) (h : w.heap.size ≤ W.heap.size) => World.ownsRow_lit (e := 2) (base := w.heap.size) (size := 1) W cs q h (by unfold maxLen; omega) (by rw [HC.out]; omega))
        go_region
        all_goals
          go_wp2_with fail
          go_meet
        case' rel => refine ⟨wr.heap.size, wr.heap.size + 1, rfl, rfl, by omega, hsz, by omega, ?_, ?_, Lib.hid ((G0.out.alloc _).alloc _).drew⟩
        case' rel => refine ⟨wr.heap.size + 1, wr.heap.size, rfl, rfl, by omega, by omega, hsz, ?_, ?_, Lib.hid ((G0.out.alloc _).alloc _).drew⟩
        all_goals
          rw [flat0, ← HCL.out]
          first
            | exact Lib.hid (own_G ((OA.out wr hsz).alloc _) (G.refl _).drew)
            | exact Lib.hid (own_G (by have h := OA.out (wr.alloc (.cells cs 2)) (by simp; omega); simpa using h) (G.refl _).drew)
      case rest =>
        clear hmk
        obtain ⟨g1, g2, rfl, rfl, hne, hg1, hg2, HO1, HO2, GC⟩ := hcut
        rw [← mxSt_zero panC q (L.zip M)] at HO1
        rw [← mxSt_zero panS q (L.zip M)] at HO2
        go_wp2
        go_loopw [50] (fun i wr => ∃ (j : Nat), j ≤ k ∧ i = .int .i64 j ∧ Hid (wr.ownsRow w.heap.size 2 1 (.slice (some ⟨g1, 0, none⟩) q q) q ((mxSt panC q ((L.zip M).take j)).flatMap iv)) ∧ Hid (wr.ownsRow w.heap.size 2 1 (.slice (some ⟨g2, 0, none⟩) q q) q ((mxSt panS q ((L.zip M).take j)).flatMap iv)) ∧ Hid (G w wr)) (fun i _ => k - (intOf i).toNat)
        case atStart => exact ⟨0, Nat.zero_le _, rfl, HO1, HO2, GC⟩
        case round =>
          obtain ⟨j, hj, rfl, HO1, HO2, G0⟩ := hrel
          have hz1 := (HO1.out.lt g1 rfl).2
          have hz2 := (HO2.out.lt g2 rfl).2
          by_cases hlt : j < k
          · obtain ⟨b, o, x, rfl, hx, hc0, hc1, hc2, hc3⟩ := (HR.out.G G0.out).Channel (k := j) (by rw [Hn.out]; exact hlt)
            obtain ⟨b2, o2, r, Ai, ci, rfl, hrk, _, hcr0, hrd⟩ := HR2.out.at_ (k := j) (by rw [Hm.out]; exact hlt)
            have hxb := vcB_bd (vcs_at HV.out hx)
            have HVS := Lib.hid (all_at HALL.out hrk)
            have hrq := mostL_le hrk
            rw [HQM.out] at hrq
            have HZ := Lib.hid (zipC_at hx hrk)
            have HST1 := Lib.hid (mxSt_snoc (s := panC) (n := q) HZ.out)
            have HST2 := Lib.hid (mxSt_snoc (s := panS) (n := q) HZ.out)
            have HB1 := Lib.hid (mxSt_bd panC_bd HV.out HALL.out q j)
            have HB2 := Lib.hid (mxSt_bd panS_bd HV.out HALL.out q j)
            have HL1 := Lib.hid (mxSt_len panC q ((L.zip M).take j))
            have HL2 := Lib.hid (mxSt_len panS q ((L.zip M).take j))
            have HRD := Lib.hid hrd
            have HCR := Lib.hid hcr0
            obtain ⟨nm, ga, pa, mu⟩ := x
            simp only at hc0 hc1 hc2 hc3 hxb
            clear hx hrk hrd hcr0
            have GA := Lib.hid (G0.out.alloc (.cells #[.string nm, .int .i64 ga, .int .i64 pa, .bool mu] 35))
            have HP2 := Lib.hid (show (wr.alloc (.cells #[.string nm, .int .i64 ga, .int .i64 pa, .bool mu] 35)).cell? ⟨wr.heap.size, 2, none⟩ = some (.int .i64 pa) from (World.cell?_alloc_at _ _ _ 2 rfl).trans rfl)
            have P1 := Lib.hid (HO1.out.alloc (.cells #[.string nm, .int .i64 ga, .int .i64 pa, .bool mu] 35))
            have P2 := Lib.hid (HO2.out.alloc (.cells #[.string nm, .int .i64 ga, .int .i64 pa, .bool mu] 35))
            cases mu
            case true =>
              have HN1 := Lib.hid (show mxSt panC q ((L.zip M).take (j + 1)) = mxSt panC q ((L.zip M).take j) by rw [HST1.out, mxStep, if_pos rfl])
              have HN2 := Lib.hid (show mxSt panS q ((L.zip M).take (j + 1)) = mxSt panS q ((L.zip M).take j) by rw [HST2.out, mxStep, if_pos rfl])
              go_wp2
              go_roundw
              case rel => exact ⟨j + 1, by omega, by go_num, Lib.hid (by rw [HN1.out]; exact P1.out), Lib.hid (by rw [HN2.out]; exact P2.out), GA⟩
              case measure => simp [intOf]; omega
            have HN1 := Lib.hid (show mxSt panC q ((L.zip M).take (j + 1)) = addP (mxV panC ⟨nm, ga, pa, false⟩) (mxSt panC q ((L.zip M).take j)) r by rw [HST1.out, mxStep, if_neg (by simp)])
            have HN2 := Lib.hid (show mxSt panS q ((L.zip M).take (j + 1)) = addP (mxV panS ⟨nm, ga, pa, false⟩) (mxSt panS q ((L.zip M).take j)) r by rw [HST2.out, mxStep, if_neg (by simp)])
            obtain ⟨O1, HE1⟩ : ∃ O1, Hid (mxSt panC q ((L.zip M).take j) = O1) := ⟨_, rfl⟩
            obtain ⟨O2, HE2⟩ : ∃ O2, Hid (mxSt panS q ((L.zip M).take j) = O2) := ⟨_, rfl⟩
            rw [HE1.out] at HN1 HB1 HL1 P1
            rw [HE2.out] at HN2 HB2 HL2 P2
            have MX1 := Lib.hid (fun (y : Int) (hy : -32767 ≤ y ∧ y ≤ 32767) => mx_parts (s := panC) (c := ⟨nm, ga, pa, false⟩) panC_bd hy hxb.1)
            have MX2 := Lib.hid (fun (y : Int) (hy : -32767 ≤ y ∧ y ≤ 32767) => mx_parts (s := panS) (c := ⟨nm, ga, pa, false⟩) panS_bd hy hxb.1)
            have MV1 := Lib.hid (fun (y : Int) => show mxV panC ⟨nm, ga, pa, false⟩ y = near (near (y * gf ga) 1000000 * panC pa) 1000000 from rfl)
            have MV2 := Lib.hid (fun (y : Int) => show mxV panS ⟨nm, ga, pa, false⟩ y = near (near (y * gf ga) 1000000 * panS pa) 1000000 from rfl)
            simp only at MX1 MX2
            have KF := Lib.hid (fun W => gainFactor_any ga hxb.1.1 hxb.1.2 W)
            have KP := Lib.hid (fun W (g : G w W) => iPan_any pa W (HTab.out.G g))
            obtain ⟨f, HFE⟩ : ∃ f, Hid (gf ga = f) := ⟨_, rfl⟩
            obtain ⟨l, HLE⟩ : ∃ l, Hid (panC pa = l) := ⟨_, rfl⟩
            obtain ⟨rr, HRE⟩ : ∃ rr, Hid (panS pa = rr) := ⟨_, rfl⟩
            simp only [HFE.out, HLE.out, HRE.out] at MX1 MX2 MV1 MV2 KF KP
            go_wp2_with (first | (go_at_call 23; with_reducible refine (KF.out _).mono ?_; rintro e w3 ⟨rfl, g3⟩; have G3 := Lib.hid (GA.out.trans g3); have hp2 := g3.cell HP2.out; have P3 := Lib.hid (own_G P1.out g3); have P4 := Lib.hid (own_G P2.out g3); clear g3) | (go_at_call 34; with_reducible refine (KP.out _ G3.out).mono ?_; rintro e w4 ⟨rfl, g4⟩; have G4 := Lib.hid (G3.out.trans g4); have hcr := G4.out.cell HCR.out; have P5 := Lib.hid (own_G P3.out g4); have P6 := Lib.hid (own_G P4.out g4); clear g4))
            clear hc0 hc1 hc2 hc3 hp2 hcr KF KP HST1 HST2 HO1 HO2
            obtain ⟨wo, rfl⟩ : ∃ wo : World, wo = wr := ⟨_, rfl⟩
            go_loopw [72] (fun i wr => ∃ (t : Nat), t ≤ r.length ∧ i = .int .i64 t ∧ Hid (wr.ownsRow w.heap.size 2 1 (.slice (some ⟨g1, 0, none⟩) q q) q ((addP (mxV panC ⟨nm, ga, pa, false⟩) O1 (r.take t)).flatMap iv)) ∧ Hid (wr.ownsRow w.heap.size 2 1 (.slice (some ⟨g2, 0, none⟩) q q) q ((addP (mxV panS ⟨nm, ga, pa, false⟩) O2 (r.take t)).flatMap iv)) ∧ Hid (G w wr)) (fun i _ => r.length - (intOf i).toNat)
            case atStart => exact ⟨0, Nat.zero_le _, rfl, Lib.hid (by rw [List.take_zero, addP_nil]; exact P5.out), Lib.hid (by rw [List.take_zero, addP_nil]; exact P6.out), G4⟩
            case round =>
              clear P1 P2 P3 P4 P5 P6 G3 G4 GA HP2 G0
              obtain ⟨t, ht, rfl, HO1, HO2, G0⟩ := hrel
              have hz1 := (HO1.out.lt g1 rfl).2
              have hz2 := (HO2.out.lt g2 rfl).2
              by_cases htl : t < r.length
              · obtain ⟨bi, oi, y, hAi, hy, hcy⟩ := (HRD.out.G G0.out).int htl
                subst hAi
                have hyb := vs_at HVS.out hy
                obtain ⟨⟨hm1, hm1'⟩, ⟨hza, hza'⟩, ⟨hm2, hm2'⟩, hv1, hv1'⟩ := MX1.out y hyb
                obtain ⟨_, _, ⟨hm3, hm3'⟩, hv2, hv2'⟩ := MX2.out y hyb
                have E1 := Lib.hid (MV1.out y)
                have E2 := Lib.hid (MV2.out y)
                obtain ⟨v1, HV1⟩ : ∃ v1, Hid (mxV panC ⟨nm, ga, pa, false⟩ y = v1) := ⟨_, rfl⟩
                obtain ⟨v2, HV2⟩ : ∃ v2, Hid (mxV panS ⟨nm, ga, pa, false⟩ y = v2) := ⟨_, rfl⟩
                obtain ⟨m1, HM1⟩ : ∃ m1, Hid (y * f = m1) := ⟨_, rfl⟩
                rw [HV1.out] at hv1 hv1' E1
                rw [HV2.out] at hv2 hv2' E2
                rw [HM1.out] at hm1 hm1' hza hza' hm2 hm2' hm3 hm3' E1 E2
                obtain ⟨z, HZE⟩ : ∃ z, Hid (near m1 1000000 = z) := ⟨_, rfl⟩
                rw [HZE.out] at hza hza' hm2 hm2' hm3 hm3' E1 E2
                obtain ⟨m2, HM2⟩ : ∃ m2, Hid (z * l = m2) := ⟨_, rfl⟩
                obtain ⟨m3, HM3⟩ : ∃ m3, Hid (z * rr = m3) := ⟨_, rfl⟩
                rw [HM2.out] at hm2 hm2' E1
                rw [HM3.out] at hm3 hm3' E2
                have K2 := Lib.hid (fun W => nearest_any m1 1000000 (by omega) (by omega) (by omega) (by omega) W)
                rw [HZE.out] at K2
                have K3 := Lib.hid (fun W => nearest_any m2 1000000 (by omega) (by omega) (by omega) (by omega) W)
                rw [← E1.out] at K3
                have K4 := Lib.hid (fun W => nearest_any m3 1000000 (by omega) (by omega) (by omega) (by omega) W)
                rw [← E2.out] at K4
                obtain ⟨a1, ha1⟩ : ∃ a1, O1[t]? = some a1 := ⟨_, List.getElem?_eq_getElem (by rw [HL1.out]; omega)⟩
                obtain ⟨a2, ha2⟩ : ∃ a2, O2[t]? = some a2 := ⟨_, List.getElem?_eq_getElem (by rw [HL2.out]; omega)⟩
                have hb1 := bdL_at HB1.out ha1
                have hb2 := bdL_at HB2.out ha2
                have S1 := Lib.hid (addP_step (mxV panC ⟨nm, ga, pa, false⟩) O1 r t a1 y ha1 hy)
                have S2 := Lib.hid (addP_step (mxV panS ⟨nm, ga, pa, false⟩) O2 r t a2 y ha2 hy)
                rw [HV1.out] at S1
                rw [HV2.out] at S2
                have hu1 := own_cellAt_mid HO1.out (flatI_at ((addP_at (mxV panC ⟨nm, ga, pa, false⟩) O1 r t).trans ha1))
                have hu2 := own_cellAt_mid HO2.out (flatI_at ((addP_at (mxV panS ⟨nm, ga, pa, false⟩) O2 r t).trans ha2))
                have hf1 := own_frozen_of HO1.out t
                have hf2 := own_frozen_of HO2.out t
                have HA2 := Lib.hid ha2
                clear hy ha1 ha2
                have hq3 : (t : Int) < (q : Int) := by omega
                have ht0 : (0 : Int) ≤ (t : Int) := by omega
                have hm := HM1.out
                go_upto_region 24 with (go_at_call 25; with_reducible refine (K2.out _).mono ?_; rintro e w5 ⟨rfl, n1, rfl⟩)
                have e2 : IntKind.i64.wrap m2 = m2 := IntWalk.i64_in _ (by omega)
                have e3 : IntKind.i64.wrap (a1 + v1) = a1 + v1 := IntWalk.i64_in _ (by omega)
                have hmm := HM2.out
                go_cut [72] from 72 to 101 (fun s72 wx => s72 = .int .i64 t ∧ Hid (wx.ownsRow w.heap.size 2 1 (.slice (some ⟨g1, 0, none⟩) q q) q ((addP (mxV panC ⟨nm, ga, pa, false⟩) O1 (r.take (t + 1))).flatMap iv)) ∧ Hid (wx.ownsRow w.heap.size 2 1 (.slice (some ⟨g2, 0, none⟩) q q) q ((addP (mxV panS ⟨nm, ga, pa, false⟩) O2 (r.take t)).flatMap iv)) ∧ Hid (G w wx))
                case first =>
                  go_region_with (go_at_call 25; (try simp only [hmm, e2]); with_reducible refine (K3.out _).mono ?_; rintro e w5 ⟨rfl, n2, rfl⟩)
                  all_goals
                    go_wp2_with fail
                    go_meet
                  all_goals exact ⟨rfl, Lib.hid (by have h := (World.ownsRow.stored (w := wr.drewN (n1 + 1 + n2)) HO1.out t (.int .i64 (a1 + v1))).1; rwa [flatI_set, S1.out] at h), Lib.hid (own_Gx (w := wr.drewN (n1 + 1 + n2)) HO2.out (World.ownsRow.stored (w := wr.drewN (n1 + 1 + n2)) HO1.out t (.int .i64 (a1 + v1))).2 (.inr (fun e => hne (Option.some.inj e).symm))), Lib.hid ((G0.out.drewN _).setCell (p := ⟨g1, t, none⟩) (by simp only; omega) _)⟩
                case rest =>
                  clear hu1 hu2 hf1 hf2 hcy e2 e3 hmm
                  obtain ⟨rfl, HO3, HO4, G1⟩ := hcut
                  have hz1 := (HO3.out.lt g1 rfl).2
                  have hz2 := (HO4.out.lt g2 rfl).2
                  have hu2 := own_cellAt_mid HO4.out (flatI_at ((addP_at (mxV panS ⟨nm, ga, pa, false⟩) O2 r t).trans HA2.out))
                  have hf2 := own_frozen_of HO4.out t
                  have e2 : IntKind.i64.wrap m3 = m3 := IntWalk.i64_in _ (by omega)
                  have e3 : IntKind.i64.wrap (a2 + v2) = a2 + v2 := IntWalk.i64_in _ (by omega)
                  have hmm := HM3.out
                  clear hm
                  go_wp2
                  go_region_with (go_at_call 25; (try simp only [hmm, e2]); with_reducible refine (K4.out _).mono ?_; rintro e w5 ⟨rfl, n3, rfl⟩)
                  all_goals
                    clear hmm e2 e3 hu2 hf2
                    go_wp2
                    go_roundw
                  all_goals first
                    | (exact ⟨t + 1, by omega, by go_num, Lib.hid (own_Gx (w := wc.drewN (1 + n3)) HO3.out (World.ownsRow.stored (w := wc.drewN (1 + n3)) HO4.out t (.int .i64 (a2 + v2))).2 (.inr (fun e => hne (Option.some.inj e)))), Lib.hid (by have h := (World.ownsRow.stored (w := wc.drewN (1 + n3)) HO4.out t (.int .i64 (a2 + v2))).1; rwa [flatI_set, S2.out] at h), Lib.hid ((G1.out.drewN _).setCell (p := ⟨g2, t, none⟩) (by simp only; omega) _)⟩)
                    | (simp [intOf]; omega)
              · obtain rfl : t = r.length := by omega
                rw [List.take_length] at HO1 HO2
                go_wp2
                go_roundw
                case rel => exact ⟨j + 1, by omega, by go_num, Lib.hid (by rw [HN1.out]; exact HO1.out), Lib.hid (by rw [HN2.out]; exact HO2.out), G0⟩
                case measure => simp [intOf]; omega
          · obtain rfl : j = k := by omega
            rw [List.take_of_length_le (by rw [List.length_zip, Hn.out, Hm.out]; omega)] at HO1 HO2
            have HL1 := Lib.hid (mxSt_len panC q (L.zip M))
            have HL2 := Lib.hid (mxSt_len panS q (L.zip M))
            have HD1 := Lib.hid (show mxL panC L M = (mxSt panC q (L.zip M)).map clipN by rw [mxL, HQM.out])
            have HD2 := Lib.hid (show mxL panS L M = (mxSt panS q (L.zip M)).map clipN by rw [mxL, HQM.out])
            obtain ⟨O1, HE1⟩ : ∃ O1, Hid (mxSt panC q (L.zip M) = O1) := ⟨_, rfl⟩
            obtain ⟨O2, HE2⟩ : ∃ O2, Hid (mxSt panS q (L.zip M) = O2) := ⟨_, rfl⟩
            rw [HE1.out] at HO1 HL1 HD1
            rw [HE2.out] at HO2 HL2 HD2
            obtain ⟨wo, rfl⟩ : ∃ wo : World, wo = wr := ⟨_, rfl⟩
            go_wp2
            go_loopw [104] (fun i wr => ∃ (t : Nat), t ≤ q ∧ i = .int .i64 t ∧ Hid (wr.ownsRow w.heap.size 2 1 (.slice (some ⟨g1, 0, none⟩) q q) q (((O1.take t).map clipN ++ O1.drop t).flatMap iv)) ∧ Hid (wr.ownsRow w.heap.size 2 1 (.slice (some ⟨g2, 0, none⟩) q q) q (((O2.take t).map clipN ++ O2.drop t).flatMap iv)) ∧ Hid (G w wr)) (fun i _ => q - (intOf i).toNat)
            case atStart => exact ⟨0, Nat.zero_le _, rfl, HO1, HO2, G0⟩
            case round =>
              clear HO1 HO2 G0
              obtain ⟨t, ht, rfl, HO1, HO2, G0⟩ := hrel
              have hz1 := (HO1.out.lt g1 rfl).2
              have hz2 := (HO2.out.lt g2 rfl).2
              by_cases htl : t < q
              · obtain ⟨a1, ha1⟩ : ∃ a1, O1[t]? = some a1 := ⟨_, List.getElem?_eq_getElem (by rw [HL1.out]; omega)⟩
                obtain ⟨a2, ha2⟩ : ∃ a2, O2[t]? = some a2 := ⟨_, List.getElem?_eq_getElem (by rw [HL2.out]; omega)⟩
                have S1 := Lib.hid (clip_step ha1)
                have S2 := Lib.hid (clip_step ha2)
                have hu1 := own_cellAt_mid HO1.out (flatI_at (clip_at ha1))
                have hu2 := own_cellAt_mid HO2.out (flatI_at (clip_at ha2))
                have hf1 := own_frozen_of HO1.out t
                have hf2 := own_frozen_of HO2.out t
                have K5 := Lib.hid (fun W => clipN_any a1 W)
                have K6 := Lib.hid (fun W => clipN_any a2 W)
                clear ha1 ha2
                have hq3 : (t : Int) < (q : Int) := by omega
                have ht0 : (0 : Int) ≤ (t : Int) := by omega
                go_wp2
                go_region_with (first | (go_at_call 24; with_reducible refine (K5.out _).mono ?_; rintro e w5 ⟨rfl, rfl⟩) | (go_at_call 24; with_reducible refine (K6.out _).mono ?_; rintro e w5 ⟨rfl, rfl⟩))
                all_goals
                  clear hu1 hu2 hf1 hf2
                  go_wp2
                  go_roundw
                all_goals first
                  | (refine ⟨t + 1, by omega, by go_num, ?_, ?_, Lib.hid (((G0.out.setCell (p := ⟨g1, t, none⟩) (by simp only; omega) _).setCell (p := ⟨g2, t, none⟩) (by simp only; omega) _).drew)⟩
                     · have h := World.ownsRow.stored HO1.out t (.int .i64 (clipN a1))
                       have h1 := h.1
                       rw [flatI_set, S1.out] at h1
                       exact Lib.hid (own_G (own_Gx h1 (World.ownsRow.stored (own_Gx HO2.out h.2 (.inr (fun e => hne (Option.some.inj e).symm))) t (.int .i64 (clipN a2))).2 (.inr (fun e => hne (Option.some.inj e)))) (G.refl _).drew)
                     · have h := World.ownsRow.stored HO1.out t (.int .i64 (clipN a1))
                       have h2 := (World.ownsRow.stored (own_Gx HO2.out h.2 (.inr (fun e => hne (Option.some.inj e).symm))) t (.int .i64 (clipN a2))).1
                       rw [flatI_set, S2.out] at h2
                       exact Lib.hid (own_G h2 (G.refl _).drew))
                  | (simp [intOf]; omega)
              · obtain rfl : t = q := by omega
                rw [List.take_of_length_le (by rw [HL1.out]; exact Nat.le_refl _), List.drop_eq_nil_of_le (by rw [HL1.out]; exact Nat.le_refl _), List.append_nil, ← HD1.out] at HO1
                rw [List.take_of_length_le (by rw [HL2.out]; exact Nat.le_refl _), List.drop_eq_nil_of_le (by rw [HL2.out]; exact Nat.le_refl _), List.append_nil, ← HD2.out] at HO2
                go_wp2
                go_ret3
                exact res2_own H.out (by rw [HD1.out, List.length_map, HL1.out]) (by rw [HD2.out, List.length_map, HL2.out]) G0.out hne HO1.out HO2.out
end Go.Proofs.YtmcddcdhppomkaaDoor
