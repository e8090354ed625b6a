/-
  Walks: PatchAll, by the reference's text.
-/
import Derived.Test.YthghcpgeddepnaaPatch
import Derived.BigRegion
import Derived.RegionTactic
namespace Go.Proofs.Ythghcpgeddepnaa
open Go.RowKit

set_option maxRecDepth 20000 in
set_option maxHeartbeats 2000000 in
theorem sPatchAll_any (A : Option Addr) (n c : Nat) (L : List Int) (w : World) (hr : Rd w A 1 iv L) (hn : L.length = n) (hb : n ≤ 4194304) :
    Calls Try.prog 28 #[.slice A n c] w (ResR w 32 2 (patchR L)) := by
  obtain ⟨i0, hi, hz0, hz1, hz2⟩ := info_parts infoRow
  have HI := Lib.hid (And.intro hi (And.intro hz0 (And.intro hz1 hz2)))
  clear hi hz0 hz1 hz2
  have K := Lib.hid (l20Widths_any A n c L w hr hn hb)
  have Hn := Lib.hid hn
  have HR := Lib.hid hr
  clear hr hn
  cases hv : wds L
  · have H := Lib.hid (show patchR L = ([], 2) by unfold patchR; rw [if_pos hv])
    rw [hv] at K
    clear hv
    go_enter Try.func28, Try.ntmps28
    go_wp2_with (go_at_call 63; refine K.out.mono ?_; rintro e w1 ⟨rfl, rfl⟩)
    go_ret2
    exact resR_nil H.out (G.refl _)
  rw [hv] at K
  have HF := Lib.hid (show patchR L = if pOk L = true then ((pSt L).2, 0) else ([], 5) by unfold patchR; rw [if_neg (by rw [hv]; simp)])
  have HU := Lib.hid (uok_all hv)
  have HV := Lib.hid hv
  have hn16 := (wds_all hv).1
  rw [Hn.out] at hn16
  clear hv
  have hmk : ∀ w : World, (Instr.makeSlice 32 (.int .i64 8) (.int .i64 8)).run Try.prog w = .ok (.slice (some ⟨w.heap.size, 0, none⟩) 8 8) (w.alloc (.cells #[.int .i64 0, .int .i64 0, .int .i64 0, .int .i64 0, .int .i64 0, .int .i64 0, .int .i64 0, .int .i64 0] 2)) := fun _ => by kernel_rfl
  go_enter Try.func28, Try.ntmps28
  go_wp2_with (first | (go_at_call 63; refine K.out.mono ?_; rintro e w1 ⟨rfl, rfl⟩))
  clear K hmk
  have OE := Lib.hid (World.ownsRow_lit (e := 32) (base := w.heap.size + 1) (size := 1) (w.alloc (.cells #[.int .i64 0, .int .i64 0, .int .i64 0, .int .i64 0, .int .i64 0, .int .i64 0, .int .i64 0, .int .i64 0] 2)) #[] 0 (by simp) (by decide) rfl)
  rw [show (w.alloc (.cells #[.int .i64 0, .int .i64 0, .int .i64 0, .int .i64 0, .int .i64 0, .int .i64 0, .int .i64 0, .int .i64 0] 2)).heap.size = w.heap.size + 1 by simp] at OE
  go_loopw [5, 6] (fun v i wr => ∃ (k : Nat) (hs : List Value), k ≤ n ∧ i = .int .i64 k ∧ Hid ((List.range k).all (pRoom L) = true) ∧ Hid (OwnR wr (w.heap.size + 1) 32 2 v hs (pSt (L.take k)).2) ∧ Hid (wr.ownsRow w.heap.size 2 1 (.slice (some ⟨w.heap.size, 0, none⟩) 8 8) 8 (ints (pSt (L.take k)).1)) ∧ Hid (G w wr)) (fun _ i _ => n - (intOf i).toNat)
  case atStart => exact ⟨0, [], Nat.zero_le _, rfl, Lib.hid rfl, Lib.hid (OwnR.lit OE.out), Lib.hid (own_G (World.ownsRow_lit (size := 1) w #[.int .i64 0, .int .i64 0, .int .i64 0, .int .i64 0, .int .i64 0, .int .i64 0, .int .i64 0, .int .i64 0] 8 (Nat.le_refl _) (by decide) rfl) ((G.refl _).alloc _)), Lib.hid (((G.refl w).alloc _).alloc _)⟩
  case round =>
    obtain ⟨k, hs, hk, rfl, HA, HO, HX, G0⟩ := hrel
    have hsz := HX.out.lt w.heap.size rfl
    by_cases hlt : k < n
    · obtain ⟨b, o, x, rfl, hx, hcw⟩ := HR.out.int (k := k) (by rw [Hn.out]; exact hlt)
      have HCW := Lib.hid (G0.out.cell hcw)
      have hxb := wds_at HV.out hx
      have HXL := Lib.hid hx
      have HUk := Lib.hid (HU.out k)
      have HST := Lib.hid (pSt_snoc hx)
      have HLEN := Lib.hid (show (pSt (L.take k)).2.length = k by rw [pSt_len, List.length_take, Hn.out]; omega)
      obtain ⟨u, HUe⟩ : ∃ u, Hid ((pSt (L.take k)).1 = u) := ⟨_, rfl⟩
      obtain ⟨M, HMe⟩ : ∃ M, Hid ((pSt (L.take k)).2 = M) := ⟨_, rfl⟩
      rw [HUe.out] at HX HUk
      rw [HMe.out] at HO HLEN
      have hbb := block_lt_of_cell hcw
      simp only at hbb
      have hlt2 : (k : Int) < (n : Int) := by omega
      have hk0 : 0 ≤ (k : Int) := by omega
      clear hcw hx
      go_wp2
      obtain ⟨wo, rfl⟩ : ∃ wo : World, wo = wr := ⟨_, rfl⟩
      go_loopw [7] (fun j wr => ∃ jn : Nat, jn ≤ 8 ∧ j = .int .i64 jn ∧ Hid (∀ i y, i < jn → u[i]? = some y → 512 < y + x) ∧ Hid (G wo wr)) (fun j _ => 8 - (intOf j).toNat)
      case atStart => exact ⟨0, by omega, rfl, Lib.hid (fun i y h => by omega), Lib.hid (G.refl _)⟩
      case round =>
        obtain ⟨j, hj, rfl, HJ, GI⟩ := hrel
        by_cases hj8 : j < 8
        · obtain ⟨y, hy⟩ : ∃ y, u[j]? = some y := ⟨_, List.getElem?_eq_getElem (by rw [HUk.out.1]; exact hj8)⟩
          have hyb := HUk.out.2 y (List.mem_of_getElem? hy)
          have gcy := cellR (own_cellAt_mid (own_G HX.out GI.out) (ints_at hy))
          have gcx := cellR (GI.out.cell HCW.out)
          have HY := Lib.hid hy
          have hd : decide ((j : Int) < 8) = true := by simp; omega
          have hj0 : 0 ≤ (j : Int) := by omega
          have hj80 : (j : Int) < 8 := by omega
          have e1 : IntKind.i64.wrap (y + x) = y + x := IntWalk.i64_in _ (by omega)
          clear hy
          by_cases hfull : 512 < y + x
          · have hd2 : decide (512 < y + x) = true := by simpa using hfull
            go_wp2
            refine region_quiet_G (by kernel_rfl) (by kernel_rfl) ?_; (repeat (go_big_quiet_step ((fail)))); refine wpQuiet_nil ?_
            intro w1 g1
            have G1 := Lib.hid (GI.out.trans g1)
            clear g1 gcy gcx e1 hd hd2
            go_wp2
            go_roundw
            case rel => exact ⟨j + 1, by omega, by go_num, Lib.hid (fun i z h1 h2 => by
              rcases Nat.lt_or_ge i j with h | h
              · exact HJ.out i z h h2
              · obtain rfl : i = j := by omega
                rw [HY.out] at h2; cases h2; exact hfull), G1⟩
            case measure => simp [intOf]; omega
          · have hd2 : decide (512 < y + x) = false := by simpa using hfull
            have HF1 := Lib.hid (show firstU u x = j from firstU_eq (by rw [HUk.out.1]; omega) HJ.out (fun z h => by rw [HY.out] at h; cases h; omega))
            have hroom : y + x ≤ 512 := by omega
            have HP := Lib.hid (show pSt (L.take (k + 1)) = (u.set j (y + x), M ++ [[(j : Int) + 1, y + 1]]) by
              rw [HST.out, pStep, HUe.out, HMe.out, HF1.out, List.getD_eq_getElem?_getD, HY.out]; rfl)
            have HA2 := Lib.hid (pOk_step HA.out HXL.out (by rw [HUe.out, HF1.out]; exact hj8))
            clear hfull
            go_wp2
            refine region_quiet_G (by kernel_rfl) (by kernel_rfl) ?_; (repeat (go_big_quiet_step ((fail)))); refine wpQuiet_nil ?_
            intro w1 g1
            have G1 := Lib.hid (G0.out.trans (GI.out.trans g1))
            have HO1 := Lib.hid (HO.out.g (GI.out.trans g1))
            have HX1 := Lib.hid (own_G HX.out (GI.out.trans g1))
            have HC1 := Lib.hid ((GI.out.trans g1).cell HCW.out)
            have hs1 := (GI.out.trans g1).size
            clear g1 gcy gcx e1 hd hd2
            have HOW := Lib.hid (show w1.ownsRow (w.heap.size + 1) 32 1 _ k hs by have := HO1.out.own; rw [HLEN.out] at this; exact this)
            have hcy := own_cellAt_mid HX1.out (ints_at HY.out)
            go_wp2_with (at_builtin; refine wpList_append_lies _ rfl (.tmp 41) (.tmp 50) 41 rfl (w.heap.size + 1) 32 i0 (.slice none 0 0) 1 24 Try.underlying41 HI.out.1 HI.out.2.1 HI.out.2.2.1 HI.out.2.2.2 rfl (by decide) _ k _ rfl ((HOW.out.alloc _).alloc _) ⟨w1.heap.size + 1, 0, none⟩ 1 1 [.slice (some ⟨w1.heap.size, 0, none⟩) 2 2] rfl rfl ?c4 ?c5 (by decide) ?c1 ?c2 ?c3 (w1.heap.size + 1 + 1) ?c6 ?_)
            case c1 => unfold maxLen; omega
            case c2 => omega
            case c3 => simp; omega
            case c4 => exact (by have := block_news (w1.alloc (.cells #[.int .i64 ((j : Int) + 1), .int .i64 (y + 1)] 2)) [.slice (some ⟨w1.heap.size, 0, none⟩) 2 2] 32; simpa using this)
            case c5 => exact slc_oneCell _ _ _
            case c6 => simp
            intro g cap w2 hown hgrow hlies _
            have HW1 := Lib.hid (((G.refl w1).alloc (.cells #[.int .i64 ((j : Int) + 1), .int .i64 (y + 1)] 2)).alloc (.cells #[.slice (some ⟨w1.heap.size, 0, none⟩) 2 2] 32))
            have HR1 := Lib.hid (own_G (World.ownsRow_lit (e := 2) (base := w1.heap.size) (size := 1) w1 #[.int .i64 ((j : Int) + 1), .int .i64 (y + 1)] 2 (Nat.le_refl _) (by decide) rfl) ((G.refl _).alloc (.cells #[.slice (some ⟨w1.heap.size, 0, none⟩) 2 2] 32)))
            have HO2 := Lib.hid (HO1.out.snoc (r := [(j : Int) + 1, y + 1]) (by omega) HW1.out HR1.out HLEN.out hown hgrow (by simpa using hlies))
            have HGG := Lib.hid hgrow
            have G2 := Lib.hid ((G1.out.trans HW1.out).grown hgrow (fun q e => by have := HOW.out.lt q e; omega))
            have HX2 := Lib.hid (own_Gx (g := _) (own_G HX1.out HW1.out) hgrow (.inr (fun e => by have := (HOW.out.lt w.heap.size e.symm).1; omega)))
            have hcx := Gx.cell (g := _) HGG.out (HW1.out.cell HC1.out) (fun e => by have := (HOW.out.lt b e.symm).1; omega)
            clear hown hgrow hlies hcy HGG
            have hcy := own_cellAt_mid HX2.out (ints_at HY.out)
            have hf := own_frozen_of HX2.out j
            have HS := Lib.hid (HX2.out.stored j (.int .i64 (y + x)))
            have HX3 := Lib.hid HS.out.1
            rw [ints_set] at HX3
            have HIN := Lib.hid HO2.out.inR
            have HO3 := Lib.hid (HO2.out.gx HS.out.2 HIN.out (fun q e => by cases e; omega))
            have G3 := Lib.hid (Gx.G G2.out HS.out.2 (by intro i hi; cases hi; exact Nat.le_refl _))
            clear HS
            go_wp2
            go_region
            go_wp2
            go_roundw
            case rel => exact ⟨k + 1, _, by omega, by go_num, HA2, Lib.hid (by rw [HP.out]; exact HO3.out.g (G.refl _).drew), Lib.hid (by rw [HP.out]; exact own_G HX3.out (G.refl _).drew), Lib.hid G3.out.drew⟩
            case measure => simp [intOf]; omega
        · obtain rfl : j = 8 := by omega
          have HF1 := Lib.hid (show firstU u x = 8 from firstU_eq (by rw [HUk.out.1]; exact Nat.le_refl _) HJ.out (fun z h => by have := (List.getElem?_eq_some_iff.1 h).1; have := HUk.out.1; omega))
          have H := Lib.hid (show patchR L = ([], 5) by rw [HF.out, pOk_bad HXL.out (by rw [HUe.out, HF1.out])]; rfl)
          go_wp2
          refine region_quiet_G (by kernel_rfl) (by kernel_rfl) ?_; (repeat (go_big_quiet_step ((fail)))); refine wpQuiet_nil ?_
          intro w1 g1
          have G1 := Lib.hid (G0.out.trans (GI.out.trans g1))
          clear g1
          go_wp2
          go_ret2
          exact resR_nil H.out G1.out
    · obtain rfl : k = n := by omega
      have e := HA.out
      have H := Lib.hid (show patchR L = ((pSt L).2, 0) by rw [HF.out, pOk_done e Hn.out.symm]; rfl)
      rw [List.take_of_length_le (by rw [Hn.out]; exact Nat.le_refl _)] at HO
      obtain ⟨A', c', rfl, _⟩ := own_slice HO.out.own
      clear e
      go_wp2
      go_ret2
      rw [H.out]
      exact ⟨A', c', hs, rfl, G0.out, HO.out.mono (by omega)⟩
end Go.Proofs.Ythghcpgeddepnaa
