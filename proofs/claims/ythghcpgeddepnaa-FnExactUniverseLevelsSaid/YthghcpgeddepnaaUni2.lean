/-
  Walks: UniverseLevels, by the reference's text.
-/
import Derived.Test.YthghcpgeddepnaaUni
import Derived.BigRegion
import Derived.RegionTactic
namespace Go.Proofs.Ythghcpgeddepnaa
open Go.RowKit

set_option maxRecDepth 20000 in
set_option maxHeartbeats 4000000 in
theorem sUniverseLevels_any (A : Option Addr) (n c : Nat) (L : List SFixture) (B : Option Addr) (m d : Nat) (M : List (List Int)) (u : Int) (w : World) (hr : Rd w A 4 cFixture L) (hn : L.length = n) (hb : n ≤ 4194304) (_hcap : n ≤ c) (hwf : ∀ x ∈ L, WfFixture x) (hr2 : RdR w B M) (hm : M.length = m) (hmb : m ≤ 4194304) (hrow : ∀ r ∈ M, r.length ≤ 1048576) :
    Calls Try.prog 47 #[.slice A n c, .slice B m d, .int .i64 u] w (Res w 2 1 iv (uniR L M u)) := by
  have K := Lib.hid (l20Ok_any A n c L w hr hn hb hwf)
  have K2 := Lib.hid (fun W => l20Universe_any u W)
  have Hn := Lib.hid hn
  have HR := Lib.hid hr
  have Hm := Lib.hid hm
  have HR2 := Lib.hid hr2
  have HRW := Lib.hid hrow
  have s0 : w.heap.size ≤ w.heap.size := Nat.le_refl _
  clear hr hn hwf hr2 hm hrow 
  cases hv : vfs L
  · have H := Lib.hid (show uniR L M u = ([], 1) by unfold uniR; rw [if_pos hv])
    rw [hv] at K
    clear hv
    go_enter Try.func47, Try.ntmps47
    go_wp2_with (go_at_call 65; with_reducible refine K.out.mono ?_; rintro e w1 ⟨rfl, g1⟩; have G1 := Lib.hid g1; have s1 := g1.size; clear g1)
    go_ret2
    exact res_nil H.out G1.out
  rw [hv] at K
  have HF := Lib.hid (show uniR L M u = if inB u 1 8 = false then ([], 2) else if M.length = L.length then (if (L.zip M).all fitB = true then (uSt u (L.zip M), 0) else ([], 2)) else ([], 2) by unfold uniR; rw [if_neg (by rw [hv]; simp)])
  have HV := Lib.hid hv
  clear hv
  cases hu : inB u 1 8
  · have H := Lib.hid (show uniR L M u = ([], 2) by rw [HF.out, if_pos hu])
    rw [hu] at K2
    clear hu
    by_cases hmn : m = n
    all_goals
      go_enter Try.func47, Try.ntmps47
      go_wp2_with (first | (go_at_call 65; with_reducible refine K.out.mono ?_; rintro e w1 ⟨rfl, g1⟩; have G1 := Lib.hid g1; have s1 := g1.size; clear g1) | (go_at_call 67; with_reducible refine (K2.out _).mono ?_; rintro e w2 ⟨rfl, rfl⟩))
      go_ret2
      exact res_nil H.out G1.out
  rw [hu] at K2
  replace HF := Lib.hid (show uniR L M u = if M.length = L.length then (if (L.zip M).all fitB = true then (uSt u (L.zip M), 0) else ([], 2)) else ([], 2) by rw [HF.out, if_neg (by rw [hu]; simp)])
  clear hu
  by_cases hmn : m = n
  case neg =>
    have H := Lib.hid (show uniR L M u = ([], 2) by rw [HF.out, if_neg (by rw [Hm.out, Hn.out]; exact hmn)])
    have hd : ((m : Int) == (n : Int)) = false := by simp; omega
    have hd2 : ((m : Int) != (n : Int)) = true := by simp; omega
    go_enter Try.func47, Try.ntmps47
    go_wp2_with (first | (go_at_call 65; with_reducible refine K.out.mono ?_; rintro e w1 ⟨rfl, g1⟩; have G1 := Lib.hid g1; have s1 := g1.size; clear g1) | (go_at_call 67; with_reducible refine (K2.out _).mono ?_; rintro e w2 ⟨rfl, rfl⟩))
    go_ret2
    exact res_nil H.out G1.out
  subst hmn
  replace HF := Lib.hid (show uniR L M u = if (L.zip M).all fitB = true then (uSt u (L.zip M), 0) else ([], 2) by rw [HF.out, if_pos (by rw [Hm.out, Hn.out])])
  have hm16 := vfs_len HV.out
  rw [Hn.out] at hm16
  have hmk : ∀ w : World, (Instr.makeSlice 32 (.int .i64 512) (.int .i64 512)).run Try.prog w = .ok (.slice (some ⟨w.heap.size, 0, none⟩) 512 512) (w.alloc (.cells (Array.replicate 512 (.int .i64 0)) 2)) := fun _ => by kernel_rfl
  go_enter Try.func47, Try.ntmps47
  go_wp2_with (first | (go_at_call 65; with_reducible refine K.out.mono ?_; rintro e w1 ⟨rfl, g1⟩; have G1 := Lib.hid g1; have s1 := g1.size; clear g1) | (go_at_call 67; with_reducible refine (K2.out _).mono ?_; rintro e w2 ⟨rfl, rfl⟩))
  clear K K2
  go_loopw [8] (fun i wr => ∃ (k : Nat), k ≤ m ∧ i = .int .i64 k ∧ Hid (((L.zip M).take k).all fitB = true) ∧ Hid (G w wr)) (fun i _ => m - (intOf i).toNat)
  case atStart => exact ⟨0, Nat.zero_le _, rfl, Lib.hid (by simp), G1⟩
  case round =>
    obtain ⟨k, hk, rfl, HA, G0⟩ := hrel
    have hsz := G0.out.size
    by_cases hlt : k < m
    · obtain ⟨b, o, x, rfl, hx, hc0, hc1, hc2, hc3⟩ := (HR.out.G G0.out).Fixture (k := k) (by rw [Hn.out]; exact hlt)
      obtain ⟨b2, o2, r, Ai, ci, rfl, hrk, hcap, hcr, hrd⟩ := (HR2.out.g G0.out).at_ (k := k) (by rw [Hm.out]; exact hlt)
      have HZ := Lib.hid (zip_at hx hrk)
      have hrl := HRW.out r (List.mem_of_getElem? hrk)
      have hxb := vfB_bd (vfs_at HV.out hx)
      have HRD := Lib.hid hrd
      have hlt2 : (k : Int) < (m : Int) := by omega
      have hk0 : 0 ≤ (k : Int) := by omega
      clear hx hrk hrd
      have gcr := cellR hcr
      have gcw := cellR hc3
      have KL := Lib.hid (fun (D : Nat) (os : Array Obj) => l20Levels_any Ai r.length ci r (Sort.grow (redrawn wr D) os) (rdR HRD.out D os) rfl (by omega))
      have GW := Lib.hid G0.out
      clear hcr hc0 hc1 hc2 hc3
      by_cases hw : (r.length : Int) = x.Width
      · have hd : ((r.length : Int) == x.Width) = true := by simp [hw]
        have hd2 : ((r.length : Int) != x.Width) = false := by simp [hw]
        have HWd := Lib.hid hw
        clear hw
        cases hl : lvs r
        · have H := Lib.hid (show uniR L M u = ([], 2) by rw [HF.out, if_neg]; rw [Bool.not_eq_true]; exact all_false HZ.out (by simp [fitB, hl]))
          rw [hl] at KL
          clear hl
          go_wp2
          refine region_quiet_G (by kernel_rfl) (by kernel_rfl) ?_; (repeat (go_big_quiet_step (((go_at_call 57; exact quiet_G_same (KL.out _ _)))))); refine wpQuiet_nil ?_
          intro w3 g3
          have G3 := Lib.hid (GW.out.trans g3)
          clear g3 gcr gcw
          go_wp2
          go_ret2
          exact res_nil H.out G3.out
        · have HA2 := Lib.hid (all_snoc HZ.out HA.out (by simp [fitB, hl, HWd.out]))
          rw [hl] at KL
          clear hl
          go_wp2
          refine region_quiet_G (by kernel_rfl) (by kernel_rfl) ?_; (repeat (go_big_quiet_step (((go_at_call 57; exact quiet_G_same (KL.out _ _)))))); refine wpQuiet_nil ?_
          intro w3 g3
          have G3 := Lib.hid (GW.out.trans g3)
          clear g3 gcr gcw
          go_wp2
          go_roundw
          case rel => exact ⟨k + 1, by omega, by go_num, HA2, G3⟩
          case measure => simp [intOf]; omega
      · have H := Lib.hid (show uniR L M u = ([], 2) by rw [HF.out, if_neg]; rw [Bool.not_eq_true]; exact all_false HZ.out (by simp [fitB, hw]))
        have hd : ((r.length : Int) == x.Width) = false := by simp [hw]
        have hd2 : ((r.length : Int) != x.Width) = true := by simp [hw]
        clear hw
        go_wp2
        refine region_quiet_G (by kernel_rfl) (by kernel_rfl) ?_; (repeat (go_big_quiet_step (((go_at_call 57; exact quiet_G_same (KL.out _ _)))))); refine wpQuiet_nil ?_
        intro w3 g3
        have G3 := Lib.hid (GW.out.trans g3)
        clear g3 gcr gcw
        go_wp2
        go_ret2
        exact res_nil H.out G3.out
    · obtain rfl : k = m := by omega
      have HALL := Lib.hid (show (L.zip M).all fitB = true from all_take_all (by rw [List.length_zip, Hn.out, Hm.out]; omega) HA.out)
      have H := Lib.hid (show uniR L M u = (uSt u (L.zip M), 0) by rw [HF.out, if_pos HALL.out])
      have HLEN := Lib.hid (uSt_len HV.out HALL.out u)
      have GA := Lib.hid G0.out
      clear HF HA G0 hk hlt
      obtain ⟨wa, rfl⟩ : ∃ wa : World, wa = wr := ⟨_, rfl⟩
      go_wp2
      obtain ⟨q, HQ⟩ : ∃ q, Hid (wa.heap.size = q) := ⟨_, rfl⟩
      have hq0 : w.heap.size ≤ q := by rw [← HQ.out]; exact GA.out.size
      have OZ := Lib.hid (World.ownsRow_lit (e := 2) (base := w.heap.size) (size := 1) wa (Array.replicate 512 (.int .i64 0)) 512 GA.out.size (by decide) (by simp))
      rw [HQ.out] at OZ
      rw [HQ.out]
      clear hmk
      go_loopw [10] (fun i wr => ∃ (j : Nat), j ≤ k ∧ i = .int .i64 j ∧ Hid (wr.ownsRow w.heap.size 2 1 (.slice (some ⟨q, 0, none⟩) 512 512) 512 ((uSt u ((L.zip M).take j)).flatMap iv)) ∧ Hid (G w wr)) (fun i _ => k - (intOf i).toNat)
      case atStart => exact ⟨0, Nat.zero_le _, rfl, Lib.hid (by rw [uSt_zero]; have := OZ.out; rw [Array.toList_replicate] at this; exact this), Lib.hid (GA.out.alloc _)⟩
      case round =>
        clear OZ
        obtain ⟨j, hj, rfl, HO, G0⟩ := hrel
        have hql := HO.out.lt q rfl
        by_cases hlt : j < k
        · obtain ⟨b, o, x, rfl, hx, hc0, hc1, hc2, hc3⟩ := HR.out.Fixture (k := j) (by rw [Hn.out]; exact hlt)
          obtain ⟨b2, o2, r, Ai, ci, rfl, hrk, hcap, hcr, hrd⟩ := HR2.out.at_ (k := j) (by rw [Hm.out]; exact hlt)
          have hbl := block_lt_of_cell hc1
          have hbl2 := block_lt_of_cell hcr
          simp only at hbl hbl2
          replace hc0 := G0.out.cell hc0
          replace hc1 := G0.out.cell hc1
          replace hc2 := G0.out.cell hc2
          replace hc3 := G0.out.cell hc3
          replace hcr := G0.out.cell hcr
          have HRD0 := Lib.hid hrd
          replace hrd := hrd.G G0.out
          have HZ := Lib.hid (zip_at hx hrk)
          have hfit := all_at HALL.out HZ.out
          simp only [fitB, Bool.and_eq_true, beq_iff_eq] at hfit
          have hxb := vfB_bd (vfs_at HV.out hx)
          have HRD := Lib.hid hrd
          have HST := Lib.hid (uSt_snoc (u := u) HZ.out)
          have HL := Lib.hid (HLEN.out j)
          have hlt2 : (j : Int) < (k : Int) := by omega
          have hk0 : 0 ≤ (j : Int) := by omega
          have hw := hfit.1
          obtain ⟨a, ha⟩ : ∃ a : Nat, x.Address = a + 1 := ⟨(x.Address - 1).toNat, by omega⟩
          have hab : a + r.length ≤ 512 := by omega
          have HAD := Lib.hid (show (x.Address - 1).toNat = a by omega)
          rw [ha] at hc2
          clear hx hrk hrd hfit
          by_cases hu : x.Universe = u
          · have HN := Lib.hid (show uSt u ((L.zip M).take (j + 1)) = spl (uSt u ((L.zip M).take j)) a r by rw [HST.out, uStep, if_pos hu, HAD.out])
            have hd : (x.Universe == u) = true := by simp [hu]
            clear hu
            have HOU := Lib.hid HO.out
            obtain ⟨out, HOE⟩ : ∃ out, Hid ((uSt u ((L.zip M).take j)) = out) := ⟨_, rfl⟩
            rw [HOE.out] at HN HOU HL
            have HAB := Lib.hid hab
            have HC2 := Lib.hid hc2
            have HCR := Lib.hid hcr
            have HC1 := Lib.hid hc1
            have HC3 := Lib.hid hc3
            have e1 : IntKind.i64.wrap (a : Int) = (a : Int) := IntWalk.i64_in _ (by omega)
            clear hc0 hc1 hc2 hc3 hcr ha
            go_wp2
            obtain ⟨wo, rfl⟩ : ∃ wo : World, wo = wr := ⟨_, rfl⟩
            go_loopw [11] (fun t wr => ∃ (tn : Nat), tn ≤ r.length ∧ t = .int .i64 tn ∧ Hid (wr.ownsRow w.heap.size 2 1 (.slice (some ⟨q, 0, none⟩) 512 512) 512 ((spl out a (r.take tn)).flatMap iv)) ∧ Hid (G w wr) ∧ Hid (Gx (some q) wo wr)) (fun t _ => r.length - (intOf t).toNat)
            case atStart => exact ⟨0, Nat.zero_le _, rfl, Lib.hid (by rw [List.take_zero, spl_nil]; exact HOU.out), G0, Lib.hid (Gx.of_G (G.refl _) _)⟩
            case round =>
              obtain ⟨t, ht, rfl, HT, G1, GX⟩ := hrel
              have NB := Lib.hid (show some b ≠ some q by intro e; cases e; omega)
              have NB2 := Lib.hid (show some b2 ≠ some q by intro e; cases e; omega)
              have hc1 := Gx.cell GX.out HC1.out NB.out
              have hc2 := Gx.cell GX.out HC2.out NB.out
              have hc3 := Gx.cell GX.out HC3.out NB.out
              have hcr := Gx.cell GX.out HCR.out NB2.out
              by_cases htl : t < r.length
              · obtain ⟨bi, oi, y, hAi, hy, hcy0⟩ := HRD0.out.int htl
                subst hAi
                have hbi := block_lt_of_cell hcy0
                simp only at hbi
                have hcy := Gx.cell GX.out (G0.out.cell hcy0) (show some bi ≠ some q by intro e; cases e; omega)
                have HSP := Lib.hid (spl_step (out := out) (a := a) (by rw [HL.out]; exact HAB.out) hy)
                have hab := HAB.out
                have e2 : IntKind.i64.wrap ((a : Int) + (t : Int)) = (a : Int) + (t : Int) := IntWalk.i64_in _ (by omega)
                have e3 : ((a : Int) + (t : Int)).toNat = a + t := by omega
                have hb1 : (0 : Int) ≤ (a : Int) + (t : Int) := by omega
                have hb2 : (a : Int) + (t : Int) < 512 := by omega
                have hb3 : (t : Int) < (r.length : Int) := by omega
                have hb4 : (0 : Int) ≤ (t : Int) := by omega
                have hb5 : (t : Int) < x.Width := by omega
                obtain ⟨v, hv⟩ := Option.isSome_iff_exists.1 (own_there HT.out (o := a + t) (m := 1) (by omega) 0 (by omega)).1
                simp only [Nat.add_zero] at hv
                have hf := own_frozen_of HT.out (a + t)
                have HS := Lib.hid (HT.out.stored (a + t) (.int .i64 y))
                have HT2 := Lib.hid HS.out.1
                rw [flat_iv, ← List.map_set, HSP.out, ← flat_iv] at HT2
                have G2 := Lib.hid (Gx.G G1.out HS.out.2 (by intro i hi; cases hi; omega))
                have GX2 := Lib.hid (Gx.trans GX.out HS.out.2)
                clear hy hcy0 HS
                go_wp2
                go_region
                go_wp2
                go_roundw
                case rel => exact ⟨t + 1, by omega, by go_num, Lib.hid (own_G HT2.out (G.refl _).drew), Lib.hid G2.out.drew, Lib.hid (Gx.trans GX2.out (Gx.of_G (G.refl _).drew _))⟩
                case measure => simp [intOf]; omega
              · obtain rfl : t = r.length := by omega
                have HE := Lib.hid (show spl out a (r.take r.length) = (uSt u ((L.zip M).take (j + 1))) by rw [HN.out, List.take_length])
                rw [HE.out] at HT
                go_wp2
                go_roundw
                case rel => exact ⟨j + 1, by omega, by go_num, HT, G1⟩
                case measure => simp [intOf]; omega
          · have HN := Lib.hid (show uSt u ((L.zip M).take (j + 1)) = uSt u ((L.zip M).take j) by rw [HST.out, uStep, if_neg hu])
            have hd : (x.Universe == u) = false := by simp [hu]
            clear hu
            have hw1 : 1 ≤ x.Width := hxb.2.2.1
            go_wp2
            obtain ⟨wo, rfl⟩ : ∃ wo : World, wo = wr := ⟨_, rfl⟩
            go_loop [11] (fun t => t = .int .i64 0) (fun _ => 0)
            case atStart => exact rfl
            case round =>
              obtain rfl := hrel
              go_wp2
              go_roundw
              case rel => exact ⟨j + 1, by omega, by go_num, Lib.hid (by rw [HN.out]; exact HO.out), G0⟩
              case measure => simp [intOf]; omega
        · obtain rfl : j = k := by omega
          have e := HLEN.out j
          rw [List.take_of_length_le (by rw [List.length_zip, Hn.out, Hm.out]; omega)] at HO e
          go_wp2
          go_ret2
          exact res_own H.out e HO.out G0.out
end Go.Proofs.Ythghcpgeddepnaa
