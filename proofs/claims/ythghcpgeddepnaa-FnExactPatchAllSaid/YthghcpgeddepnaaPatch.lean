/-
  Walks: PatchAll, by both texts.
-/
import Derived.Test.YthghcpgeddepnaaPatchM
import Derived.Test.YthghcpgeddepnaaRowsW
import Derived.Test.YthghcpgeddepnaaIns
import Derived.Deep.AppendLies
import Derived.Deep.RegionHeld3
namespace Go.Proofs.Ythghcpgeddepnaa
open Go.RowKit

theorem resR_nil {w w' : World} {TS TI : TypeId} {R : List (List Int) × Int} {code : Int} (h : R = ([], code)) (hg : G w w') : ResR w TS TI R (.returned (.tuple #[.slice none 0 0, .int .i64 code])) w' := by
  subst h
  exact ⟨none, 0, [], rfl, hg, OwnR.nil _ _ _ _⟩
def ints (L : List Int) : List Value := L.map (Value.int .i64)
theorem ints_at {L : List Int} {k : Nat} {x : Int} (h : L[k]? = some x) : (ints L)[k]? = some (.int .i64 x) := by unfold ints; simp [h]
theorem ints_set (L : List Int) (k : Nat) (x : Int) : (ints L).set k (.int .i64 x) = ints (L.set k x) := by unfold ints; rw [List.map_set]
theorem slc_oneCell (A : Option Addr) (n c : Nat) : ∀ u ∈ [Value.slice A n c], u.oneCell' = true := by
  intro u hu
  simp only [List.mem_singleton] at hu
  subst hu
  rfl
theorem ints_flat (L : List Int) : L.flatMap iv = ints L := by
  induction L with
  | nil => rfl
  | cons x L ih => rw [List.flatMap_cons, ih]; rfl

set_option maxRecDepth 20000 in
set_option maxHeartbeats 2000000 in
theorem iPatchAll_any (A : Option Addr) (n c : Nat) (L : List Int) (w : World) (hr : Rd w A 1 iv L) (hn : L.length = n) (hb : n ≤ 4194304) :
    Calls Try.prog 29 #[.slice A n c] w (ResR w 32 2 (patchR L)) := by
  obtain ⟨i0, hi, hz0, hz1, hz2⟩ := info_parts infoRow
  have HI := Lib.hid (And.intro hi (And.intro hz0 (And.intro hz1 hz2)))
  clear hi hz0 hz1 hz2
  have K := Lib.hid (areWidths_any A n c L w hr hn hb)
  have Hn := Lib.hid hn
  have HR := Lib.hid hr
  clear hr hn
  cases hv : wds L
  · have H := Lib.hid (show patchR L = ([], 2) by unfold patchR; rw [if_pos hv])
    rw [hv] at K
    clear hv
    go_enter Try.func29, Try.ntmps29
    go_wp2_with (go_at_call 64; refine K.out.mono ?_; rintro e w1 ⟨rfl, rfl⟩)
    go_ret2
    exact resR_nil H.out (G.refl _)
  rw [hv] at K
  have HF := Lib.hid (show patchR L = if pOk L = true then ((pSt L).2, 0) else ([], 5) by unfold patchR; rw [if_neg (by rw [hv]; simp)])
  have HU := Lib.hid (uok_all hv)
  have HV := Lib.hid hv
  have hn16 := (wds_all hv).1
  rw [Hn.out] at hn16
  clear hv
  go_enter Try.func29, Try.ntmps29
  go_wp2_with (go_at_call 64; refine K.out.mono ?_; rintro e w1 ⟨rfl, rfl⟩)
  clear K
  go_loopw [5, 14] (fun v i wr => ∃ (k : Nat) (hs : List Value), k ≤ n ∧ i = .int .i64 k ∧ Hid ((List.range k).all (pRoom L) = true) ∧ Hid (OwnR wr (w.heap.size + 1) 32 2 v hs (pSt (L.take k)).2) ∧ Hid (wr.ownsRow w.heap.size 73 8 (.slice (some ⟨w.heap.size, 0, none⟩) 1 1) 1 (ints (pSt (L.take k)).1)) ∧ Hid (G w wr)) (fun _ i _ => n - (intOf i).toNat)
  case atStart => exact ⟨0, [], Nat.zero_le _, rfl, Lib.hid rfl, Lib.hid (OwnR.nil _ _ _ _), Lib.hid (own_new (w := w) (base := w.heap.size) (n := 1) (cap := 1) (size := 8) (e := 73) (cur := #[.int .i64 0, .int .i64 0, .int .i64 0, .int .i64 0, .int .i64 0, .int .i64 0, .int .i64 0, .int .i64 0]) (Nat.le_refl _) (by decide) (by decide) rfl), Lib.hid ((G.refl w).alloc _)⟩
  case round =>
    obtain ⟨k, hs, hk, rfl, HA, HO, HX, G0⟩ := hrel
    have hsz := HX.out.lt w.heap.size rfl
    by_cases hlt : k < n
    · obtain ⟨b, o, x, rfl, hx, hcw⟩ := HR.out.int (k := k) (by rw [Hn.out]; exact hlt)
      have hc := G0.out.cell hcw
      have hxb := wds_at HV.out hx
      have HXL := Lib.hid hx
      have HUk := Lib.hid (HU.out k)
      have HST := Lib.hid (pSt_snoc hx)
      have HLEN := Lib.hid (show (pSt (L.take k)).2.length = k by rw [pSt_len, List.length_take, Hn.out]; omega)
      obtain ⟨u, HUe⟩ : ∃ u, Hid ((pSt (L.take k)).1 = u) := ⟨_, rfl⟩
      obtain ⟨M, HMe⟩ : ∃ M, Hid ((pSt (L.take k)).2 = M) := ⟨_, rfl⟩
      rw [HUe.out] at HX HUk
      rw [HMe.out] at HO HLEN
      obtain ⟨wo, HWO⟩ : ∃ wo : World, Hid (wo = wr) := ⟨_, Lib.hid rfl⟩
      clear hcw hx
      go_wp2
      go_loop [8] (fun j => ∃ jn : Nat, jn ≤ 8 ∧ j = .int .i64 jn ∧ Hid (∀ i y, i < jn → u[i]? = some y → 512 < y + x)) (fun j => 8 - (intOf j).toNat)
      case atStart => exact ⟨0, by omega, rfl, Lib.hid (fun i y h => by omega)⟩
      case round =>
        obtain ⟨j, hj, rfl, HJ⟩ := hrel
        by_cases hj8 : j < 8
        · obtain ⟨y, hy⟩ : ∃ y, u[j]? = some y := ⟨_, List.getElem?_eq_getElem (by rw [HUk.out.1]; exact hj8)⟩
          have hyb := HUk.out.2 y (List.mem_of_getElem? hy)
          have hcy := own_cellAt_mid HX.out (ints_at hy)
          have HY := Lib.hid hy
          clear hy
          by_cases hfull : 512 < y + x
          · go_wp2
            go_round
            case rel => exact ⟨j + 1, by omega, by go_num, Lib.hid (fun i z h1 h2 => by
              rcases Nat.lt_or_ge i j with h | h
              · exact HJ.out i z h h2
              · obtain rfl : i = j := by omega
                rw [HY.out] at h2; cases h2; exact hfull)⟩
            case measure => simp [intOf]; omega
          · have HF1 := Lib.hid (show firstU u x = j from firstU_eq (by rw [HUk.out.1]; omega) HJ.out (fun z h => by rw [HY.out] at h; cases h; omega))
            have hroom : y + x ≤ 512 := by omega
            have HP := Lib.hid (show pSt (L.take (k + 1)) = (u.set j (y + x), M ++ [[(j : Int) + 1, y + 1]]) by
              rw [HST.out, pStep, HUe.out, HMe.out, HF1.out, List.getD_eq_getElem?_getD, HY.out]; rfl)
            have HA2 := Lib.hid (pOk_step HA.out HXL.out (by rw [HUe.out, HF1.out]; exact hj8))
            have HOW := Lib.hid (show wr.ownsRow (w.heap.size + 1) 32 1 _ k hs by have := HO.out.own; rw [HLEN.out] at this; exact this)
            have hf := own_frozen_of HX.out j
            clear hfull
            go_wp2_with (at_builtin; refine wpList_append_lies _ rfl (.tmp 32) (.tmp 40) 41 rfl (w.heap.size + 1) 32 i0 (.slice none 0 0) 1 24 Try.underlying41 HI.out.1 HI.out.2.1 HI.out.2.2.1 HI.out.2.2.2 rfl (by decide) _ k _ rfl ((HOW.out.alloc _).alloc _) ⟨wr.heap.size + 1, 0, none⟩ 1 1 [.slice (some ⟨wr.heap.size, 0, none⟩) 2 2] rfl rfl ?c4 ?c5 (by decide) ?c1 ?c2 ?c3 (wr.heap.size + 1 + 1) ?c6 ?_)
            case c1 => unfold maxLen; omega
            case c2 => omega
            case c3 => omega
            case c5 => rfl
            intro g cap w1 hown hgrow hlies _
            have HW1 := Lib.hid (((G.refl wr).alloc (.cells #[.int .i64 ((j : Int) + 1), .int .i64 (y + 1)] 2)).alloc (.cells #[.slice (some ⟨wr.heap.size, 0, none⟩) 2 2] 32))
            have HR1 := Lib.hid (own_G (World.ownsRow_lit (e := 2) (base := wr.heap.size) (size := 1) wr #[.int .i64 ((j : Int) + 1), .int .i64 (y + 1)] 2 (Nat.le_refl _) (by decide) rfl) ((G.refl _).alloc (.cells #[.slice (some ⟨wr.heap.size, 0, none⟩) 2 2] 32)))
            have HO2 := Lib.hid (HO.out.snoc (r := [(j : Int) + 1, y + 1]) (by omega) HW1.out HR1.out HLEN.out hown hgrow (by simpa using hlies))
            have G2 := Lib.hid ((G0.out.trans HW1.out).grown hgrow (fun q e => by have := HOW.out.lt q e; omega))
            have HX2 := Lib.hid (own_Gx (g := _) (own_G HX.out HW1.out) hgrow (.inr (fun e => by have := (HOW.out.lt w.heap.size e.symm).1; omega)))
            clear hown hgrow hlies hcy hf
            have hcy := own_cellAt_mid HX2.out (ints_at HY.out)
            have hf := own_frozen_of HX2.out j
            have HS := Lib.hid (HX2.out.stored j (.int .i64 (y + x)))
            have HX3 := Lib.hid HS.out.1
            rw [ints_set] at HX3
            have HIN := Lib.hid HO2.out.inR
            have HO3 := Lib.hid (HO2.out.gx HS.out.2 HIN.out (fun q e => by cases e; omega))
            have G3 := Lib.hid (Gx.G G2.out HS.out.2 (by intro i hi; cases hi; exact Nat.le_refl _))
            clear HS
            go_wp2
            go_roundw
            case rel => exact ⟨k + 1, _, by omega, by go_num, HA2, Lib.hid (by rw [HP.out]; exact HO3.out), Lib.hid (by rw [HP.out]; exact HX3.out), G3⟩
            case measure => simp [intOf]; omega
        · obtain rfl : j = 8 := by omega
          have HF1 := Lib.hid (show firstU u x = 8 from firstU_eq (by rw [HUk.out.1]; exact Nat.le_refl _) HJ.out (fun z h => by have := (List.getElem?_eq_some_iff.1 h).1; have := HUk.out.1; omega))
          have H := Lib.hid (show patchR L = ([], 5) by rw [HF.out, pOk_bad HXL.out (by rw [HUe.out, HF1.out])]; rfl)
          go_wp2
          go_ret2
          exact resR_nil H.out G0.out
    · obtain rfl : k = n := by omega
      have e := HA.out
      have H := Lib.hid (show patchR L = ((pSt L).2, 0) by rw [HF.out, pOk_done e Hn.out.symm]; rfl)
      rw [List.take_of_length_le (by rw [Hn.out]; exact Nat.le_refl _)] at HO
      obtain ⟨A', c', rfl, _⟩ := own_slice HO.out.own
      clear e
      go_wp2
      go_ret2
      rw [H.out]
      exact ⟨A', c', hs, rfl, G0.out, HO.out.mono (by omega)⟩
end Go.Proofs.Ythghcpgeddepnaa
