/-
  The law FnPlayer, walked (with the walks and the plain law that it alone wants).
-/
import Derived.Test.YtecakcgkibemaaaGreatDoorPlay
import Derived.Test.YtecakcgkibemaaaGreatDoorEnd
import Derived.Test.YtecakcgkibemaaaGreatDoorValidCues
import Derived.Test.YtecakcgkibemaaaGreatDoorTickM
import Derived.Test.YtecakcgkibemaaaGreatDoorRemain
import Derived.Test.YtecakcgkibemaaaGreatDoorSwitch
import Derived.Test.YtecakcgkibemaaaGreatDoorRdPl2
import Derived.Test.YtecakcgkibemaaaGreatDoorDrawPl
import Derived.Test.YtecakcgkibemaaaGreatDoorTickO
import Derived.Test.YtecakcgkibemaaaGreatDoorSamePl
namespace Go.Proofs.YtecakcgkibemaaaGreatDoor
open Go.RowKit

set_option maxHeartbeats 2000000 in
theorem iPlayOn_anyO (A : Option Addr) (n c : Nat) (t r : Int) (p : Bool) (L : List SCue) (w : World) (hr : Rd w A 6 cCue L) (hn : L.length = n) (hb : n ≤ 4194304) (hcap : n ≤ c) (hwf : ∀ x ∈ L, WfCue x) :
    Calls Tryz.prog 8 #[pV A n c t r p] w (ResP w (swR L t r p true)) := by
  have B0 := Lib.hid (((G.refl w).alloc (.cells #[.slice A n c, .int .i64 t, .int .i64 r, .bool p] 25)).alloc (.cells #[.slice none 0 0, .int .i64 0, .int .i64 0, .bool false] 25))
  have KS := Lib.hid (switched_any A n c t r p true L ((w.alloc (.cells #[.slice A n c, .int .i64 t, .int .i64 r, .bool p] 25)).alloc (.cells #[.slice none 0 0, .int .i64 0, .int .i64 0, .bool false] 25)) (hr.G B0.out) hn hb hcap hwf)
  have OR := Lib.hid (own_new (w := w.alloc (.cells #[.slice A n c, .int .i64 t, .int .i64 r, .bool p] 25)) (base := w.heap.size) (n := 1) (cap := 1) (size := 4) (e := 25) (cur := #[.slice none 0 0, .int .i64 0, .int .i64 0, .bool false]) (by simp) (by decide) (by decide) rfl)
  rw [show (w.alloc (.cells #[.slice A n c, .int .i64 t, .int .i64 r, .bool p] 25)).heap.size = w.heap.size + 1 by simp] at OR
  have l0 := (OR.out.lt (w.heap.size + 1) rfl).2
  clear hr hn hwf hcap
  obtain ⟨R, HR⟩ : ∃ R, Hid (swR L t r p true = R) := ⟨_, rfl⟩
  rw [HR.out] at KS ⊢
  unfold pV
  go_enter Tryz.func8, Tryz.ntmps8
  go_wp2_with fail
  refine KS.out.mono ?_
  rintro e w1 ⟨A', c', rfl, g1, ho⟩
  have HO := Lib.hid (ho.mono B0.out.size)
  have hlt := ho.lt
  have G1 := Lib.hid (B0.out.trans g1)
  have R1 := Lib.hid (own_G OR.out g1)
  obtain ⟨q1, HQ1⟩ : ∃ q, Hid (w.heap.size + 1 = q) := ⟨_, rfl⟩
  have b1 : w.heap.size ≤ q1 := by rw [← HQ1.out]; omega
  have m1 : (Value.slice A' R.L.length c').ownBlock = none ∨ (Value.slice A' R.L.length c').ownBlock ≠ some q1 := .inr (fun e => by have := (hlt q1 e).1; have := HQ1.out; omega)
  rw [HQ1.out] at R1
  clear g1 hlt ho OR B0
  rw [HQ1.out]
  have hr0 := own_cellAt_mid R1.out (j := 0) rfl
  have hz0 := own_frozen_of R1.out 0
  have hr1 := own_cellAt_mid R1.out (j := 1) rfl
  have hz1 := own_frozen_of R1.out 1
  have hr2 := own_cellAt_mid R1.out (j := 2) rfl
  have hz2 := own_frozen_of R1.out 2
  have hr3 := own_cellAt_mid R1.out (j := 3) rfl
  have hz3 := own_frozen_of R1.out 3
  dsimp only
  go_wp2
  have T0 := Lib.hid (R1.out.stored 0 ((.slice A' R.L.length c')))
  have Z0 := Lib.hid T0.out.2
  have T1 := Lib.hid (T0.out.1.stored 1 (.int .i64 R.t))
  have Z1 := Lib.hid (Gx.trans Z0.out T1.out.2)
  have T2 := Lib.hid (T1.out.1.stored 2 (.int .i64 R.r))
  have Z2 := Lib.hid (Gx.trans Z1.out T2.out.2)
  have T3 := Lib.hid (T2.out.1.stored 3 (.bool R.p))
  have Z3 := Lib.hid (Gx.trans Z2.out T3.out.2)
  have G2 := Lib.hid (Gx.G G1.out Z3.out (by intro i hi; cases hi; exact b1))
  have O2 := Lib.hid (own_Gx HO.out Z3.out m1)
  have k0 := own_cellAt_mid T3.out.1 (j := 0) rfl
  have k1 := own_cellAt_mid T3.out.1 (j := 1) rfl
  have k2 := own_cellAt_mid T3.out.1 (j := 2) rfl
  have k3 := own_cellAt_mid T3.out.1 (j := 3) rfl
  refine bodyPost_ret (v := .tuple #[pV A' R.L.length c' R.t R.r R.p, .int .i64 R.code]) (by simp [results, Tryz.results8, go_sem, k0, k1, k2, k3]) rfl ⟨A', c', rfl, G2.out, O2.out⟩


set_option maxHeartbeats 2000000 in
theorem iPauseOn_anyO (A : Option Addr) (n c : Nat) (t r : Int) (p : Bool) (L : List SCue) (w : World) (hr : Rd w A 6 cCue L) (hn : L.length = n) (hb : n ≤ 4194304) (hcap : n ≤ c) (hwf : ∀ x ∈ L, WfCue x) :
    Calls Tryz.prog 9 #[pV A n c t r p] w (ResP w (swR L t r p false)) := by
  have B0 := Lib.hid (((G.refl w).alloc (.cells #[.slice A n c, .int .i64 t, .int .i64 r, .bool p] 25)).alloc (.cells #[.slice none 0 0, .int .i64 0, .int .i64 0, .bool false] 25))
  have KS := Lib.hid (switched_any A n c t r p false L ((w.alloc (.cells #[.slice A n c, .int .i64 t, .int .i64 r, .bool p] 25)).alloc (.cells #[.slice none 0 0, .int .i64 0, .int .i64 0, .bool false] 25)) (hr.G B0.out) hn hb hcap hwf)
  have OR := Lib.hid (own_new (w := w.alloc (.cells #[.slice A n c, .int .i64 t, .int .i64 r, .bool p] 25)) (base := w.heap.size) (n := 1) (cap := 1) (size := 4) (e := 25) (cur := #[.slice none 0 0, .int .i64 0, .int .i64 0, .bool false]) (by simp) (by decide) (by decide) rfl)
  rw [show (w.alloc (.cells #[.slice A n c, .int .i64 t, .int .i64 r, .bool p] 25)).heap.size = w.heap.size + 1 by simp] at OR
  have l0 := (OR.out.lt (w.heap.size + 1) rfl).2
  clear hr hn hwf hcap
  obtain ⟨R, HR⟩ : ∃ R, Hid (swR L t r p false = R) := ⟨_, rfl⟩
  rw [HR.out] at KS ⊢
  unfold pV
  go_enter Tryz.func9, Tryz.ntmps9
  go_wp2_with fail
  refine KS.out.mono ?_
  rintro e w1 ⟨A', c', rfl, g1, ho⟩
  have HO := Lib.hid (ho.mono B0.out.size)
  have hlt := ho.lt
  have G1 := Lib.hid (B0.out.trans g1)
  have R1 := Lib.hid (own_G OR.out g1)
  obtain ⟨q1, HQ1⟩ : ∃ q, Hid (w.heap.size + 1 = q) := ⟨_, rfl⟩
  have b1 : w.heap.size ≤ q1 := by rw [← HQ1.out]; omega
  have m1 : (Value.slice A' R.L.length c').ownBlock = none ∨ (Value.slice A' R.L.length c').ownBlock ≠ some q1 := .inr (fun e => by have := (hlt q1 e).1; have := HQ1.out; omega)
  rw [HQ1.out] at R1
  clear g1 hlt ho OR B0
  rw [HQ1.out]
  have hr0 := own_cellAt_mid R1.out (j := 0) rfl
  have hz0 := own_frozen_of R1.out 0
  have hr1 := own_cellAt_mid R1.out (j := 1) rfl
  have hz1 := own_frozen_of R1.out 1
  have hr2 := own_cellAt_mid R1.out (j := 2) rfl
  have hz2 := own_frozen_of R1.out 2
  have hr3 := own_cellAt_mid R1.out (j := 3) rfl
  have hz3 := own_frozen_of R1.out 3
  dsimp only
  go_wp2
  have T0 := Lib.hid (R1.out.stored 0 ((.slice A' R.L.length c')))
  have Z0 := Lib.hid T0.out.2
  have T1 := Lib.hid (T0.out.1.stored 1 (.int .i64 R.t))
  have Z1 := Lib.hid (Gx.trans Z0.out T1.out.2)
  have T2 := Lib.hid (T1.out.1.stored 2 (.int .i64 R.r))
  have Z2 := Lib.hid (Gx.trans Z1.out T2.out.2)
  have T3 := Lib.hid (T2.out.1.stored 3 (.bool R.p))
  have Z3 := Lib.hid (Gx.trans Z2.out T3.out.2)
  have G2 := Lib.hid (Gx.G G1.out Z3.out (by intro i hi; cases hi; exact b1))
  have O2 := Lib.hid (own_Gx HO.out Z3.out m1)
  have k0 := own_cellAt_mid T3.out.1 (j := 0) rfl
  have k1 := own_cellAt_mid T3.out.1 (j := 1) rfl
  have k2 := own_cellAt_mid T3.out.1 (j := 2) rfl
  have k3 := own_cellAt_mid T3.out.1 (j := 3) rfl
  refine bodyPost_ret (v := .tuple #[pV A' R.L.length c' R.t R.r R.p, .int .i64 R.code]) (by simp [results, Tryz.results9, go_sem, k0, k1, k2, k3]) rfl ⟨A', c', rfl, G2.out, O2.out⟩



set_option maxHeartbeats 4000000 in
theorem sShowEnd_any (A : Option Addr) (n c : Nat) (L : List SCue) (w : World) (hr : Rd w A 6 cCue L) (hn : L.length = n) (hb : n ≤ 4194304) (hwf : ∀ x ∈ L, WfCue x) (hv : vcus L = true) :
    Calls Tryz.prog 11 #[.slice A n c] w fun e w' => e = .returned (.tuple #[.int .i64 (endL L), .int .i64 0]) ∧ G w w' := by
  have K := Lib.hid (l13Ok_any A n c L w hr hn hb hwf)
  rw [hv] at K
  have KL := Lib.hid (fun (W : World) (g : G w W) => l13End_any A n c L W (hr.G g) hn hb hv)
  clear hr hn hwf hv
  go_enter Tryz.func11, Tryz.ntmps11
  go_wp2_with (first | (go_at_call 26; (with_reducible refine K.out.mono ?_); rintro e w1 ⟨rfl, g1⟩; have G1 := Lib.hid g1; clear g1) | (go_at_call 27; (with_reducible refine (KL.out _ G1.out).mono ?_); rintro e w3 ⟨rfl, g3⟩; have G3 := Lib.hid (G1.out.trans g3); clear g3))
  go_ret2
  exact ⟨rfl, G3.out⟩

theorem up_mul {D r : Int} (hr : 0 < r) : D ≤ (D + r - 1) / r * r ∧ ((D + r - 1) / r - 1) * r < D := by
  have h1 := Int.ediv_mul_le (D + r - 1) (show r ≠ 0 by omega)
  have h2 := Int.lt_ediv_add_one_mul_self (D + r - 1) hr
  rw [Int.add_mul, Int.one_mul] at h2
  refine ⟨by omega, ?_⟩
  rw [Int.sub_mul, Int.one_mul]
  omega
section
variable {L : List SCue} {t r : Int}
theorem pl_on (hv : vplB L t r = true) : swR L t r false true = ⟨L, t, r, true, 0⟩ := by
  unfold swR
  rw [if_neg (by rw [hv]; simp), if_neg (by simp)]
theorem pl_off (hv : vplB L t r = true) : swR L t r true false = ⟨L, t, r, false, 0⟩ := by
  unfold swR
  rw [if_neg (by rw [hv]; simp), if_neg (by simp)]
theorem pl_again (hv : vplB L t r = true) : swR L t r true true = ⟨[], 0, 0, false, 6⟩ := by
  unfold swR
  rw [if_neg (by rw [hv]; simp), if_pos rfl]
  rfl
theorem pl_still (hv : vplB L t r = true) : tickR L t r false 1000 = (⟨L, t, r, false, 0⟩, []) := by
  unfold tickR
  rw [if_neg (by rw [hv]; simp), if_neg (by rw [inB_mk ⟨by omega, by omega⟩]; simp), if_pos rfl]
theorem pl_rest (hv : vplB L t r = true) : ∃ Q : Int, remR L t r = (Q, 0) ∧ 0 ≤ Q ∧ Q ≤ 100000004000 ∧ (Q ≤ 600000 → tickR L t r true Q = (⟨L, endL L, r, false, 0⟩, idsB L t 7200001)) ∧ (Q ≤ 600000 → 0 < Q → ∃ u, u < endL L ∧ tickR L t r true (Q - 1) = (⟨L, u, r, true, 0⟩, idsB L t u)) := by
  obtain ⟨-, h0, h1, h2, h3, h4⟩ := vplB_bd hv
  have hb := up_bd (a := (endL L - t) * 1000) (b := r) (by omega) (by omega) (by omega) h3
  have hm := up_mul (D := (endL L - t) * 1000) (r := r) (by omega)
  refine ⟨((endL L - t) * 1000 + r - 1) / r, by unfold remR; rw [if_pos hv], hb.1, hb.2, fun hq => ?_, fun hq hp => ?_⟩
  · unfold tickR
    rw [if_neg (by rw [hv]; simp), if_neg (by rw [inB_mk ⟨hb.1, hq⟩]; simp), if_neg (by simp), if_pos]
    have := Int.le_ediv_of_mul_le (show (0 : Int) < 1000 by omega) hm.1
    omega
  · have hlt := Int.ediv_lt_of_lt_mul (show (0 : Int) < 1000 by omega) hm.2
    refine ⟨t + (((endL L - t) * 1000 + r - 1) / r - 1) * r / 1000, by omega, ?_⟩
    unfold tickR
    rw [if_neg (by rw [hv]; simp), if_neg (by rw [inB_mk ⟨by omega, by omega⟩]; simp), if_neg (by simp), if_neg (by omega)]
end

theorem resT_of {w : World} {M : List SCue} {t r : Int} {p : Bool} {code : Int} {F : List ByteArray} {e : Ending} {w' : World} (h : ResT w (⟨M, t, r, p, code⟩, F) e w') : ∃ A c A2 c2, e = .returned (.tuple #[.agg #[.slice A M.length c, .int .i64 t, .int .i64 r, .bool p], .slice A2 F.length c2, .int .i64 code]) ∧ G w w' ∧ w'.ownsRow w.heap.size 49 6 (.slice A M.length c) M.length (M.flatMap cCue) ∧ w'.ownsRow w.heap.size 9 1 (.slice A2 F.length c2) F.length (F.flatMap sv) := by
  obtain ⟨A, c, A2, c2, h1, h2, h3, h4, -⟩ := h
  exact ⟨A, c, A2, c2, h1, h2, h3, h4⟩
theorem resP_of {w : World} {M : List SCue} {t r : Int} {p : Bool} {code : Int} {e : Ending} {w' : World} (h : ResP w ⟨M, t, r, p, code⟩ e w') : ∃ A c, e = .returned (.tuple #[.agg #[.slice A M.length c, .int .i64 t, .int .i64 r, .bool p], .int .i64 code]) ∧ G w w' ∧ w'.ownsRow w.heap.size 49 6 (.slice A M.length c) M.length (M.flatMap cCue) := h
theorem sameC_self (x : SCue) : sameC x x = true := by
  simp [sameC]
theorem samePl_self (L : List SCue) (t r : Int) (p : Bool) : samePl L L t t r r p p = true := by
  have : sameLs L L = true := by
    unfold sameLs
    rw [Bool.and_eq_true]
    refine ⟨by simp, List.all_eq_true.2 fun k hk => ?_⟩
    rw [List.mem_range] at hk
    have := List.getElem?_eq_getElem hk
    simp [sameAt, this, sameC_self]
  unfold samePl
  rw [this]
  simp
theorem rplE_of {w : World} {R : SPr} {b : Bool} {e : Ending} {w' : World} (h : rplE w (R, b) e w') : ∃ A c, e = .returned (.tuple #[.agg #[.slice A R.L.length c, .int .i64 R.t, .int .i64 R.r, .bool R.p], .bool b]) ∧ G w w' ∧ w'.ownsRow w.heap.size 49 6 (.slice A R.L.length c) R.L.length (R.L.flatMap cCue) := h
theorem plT_size {L : List SCue} {t r : Int} {p : Bool} (h : vplB L t r = true) : (plT L t r p).size ≤ 1048576 := by
  obtain ⟨hv, h0, h1, h2, h3, h4⟩ := vplB_bd h
  have a := plH_size (t := t) (r := r) p h0 (by omega) (by omega) h3
  have b := plF_size (h := plH t r p) hv L.length (Nat.le_refl _)
  rw [List.take_length] at b
  have c := vcus_len hv
  unfold plT
  omega
set_option maxRecDepth 20000 in
set_option maxHeartbeats 16000000 in
theorem lawFnPlayer (A0 : Option Addr) (n0 c0 : Nat) (z0 : List Int) (w : World) (hE : Env w) (h0 : IsRow .u8 w A0 n0 c0 z0) :
    Calls Tryz.prog 3 #[.slice A0 n0 c0] w fun e w' => e = .returned (.bool true) ∧ Below w.heap.size w w' := by
  have HE := Lib.hid hE
  clear hE
  by_cases hb0 : n0 ≤ 1048576
  case neg =>
    clear h0
    go_enter Tryz.func3, Tryz.ntmps3
    go_wp2
    go_ret
    exact ⟨rfl, G.refl _⟩
  obtain ⟨hc0, hl0⟩ := code_of_isRow h0 hb0
  have KP := Lib.hid (R8Player_any A0 n0 c0 _ w hc0 hl0)
  clear h0 hc0 hl0
  go_enter Tryz.func3, Tryz.ntmps3
  go_wp2_with fail
  refine KP.out.mono ?_
  rintro e w1 ⟨v, ⟨b, cb, M, t, r, p, rfl, hv, hcb, om⟩, rfl, g1⟩
  have G1 := Lib.hid g1
  have OM := Lib.hid om
  clear g1 om KP
  dsimp only
  obtain ⟨hvc, ht0, ht1, hr0, hr1, he⟩ := vplB_bd hv
  have hm32 := vcus_len hvc
  have HWF := Lib.hid (vcus_wfs hvc)
  have HVC := Lib.hid hvc
  have HV := Lib.hid hv
  have HTX := Lib.hid (show plTx M t r p = plT M t r p by unfold plTx; rw [if_pos hv])
  have HSZ := Lib.hid (plT_size (p := p) hv)
  have HRD := Lib.hid (show rplR (plT M t r p) = (⟨M, t, r, p⟩, true) from rplR_of ⟨hv, rfl⟩)
  have E1 := Lib.hid (pl_on hv)
  have E2 := Lib.hid (pl_off hv)
  have E3 := Lib.hid (pl_again hv)
  have E4 := Lib.hid (pl_still hv)
  obtain ⟨Q, e5, hq0, hq1, e6, e7⟩ := pl_rest hv
  have E5 := Lib.hid e5
  have E6 := Lib.hid e6
  have E7 := Lib.hid e7
  obtain ⟨s, HS⟩ : ∃ s, Hid (plT M t r p = s) := ⟨_, rfl⟩
  rw [HS.out] at HTX HSZ HRD
  obtain ⟨en, HEN⟩ : ∃ x, Hid (endL M = x) := ⟨_, rfl⟩
  rw [HEN.out] at E6 E7
  clear hv hvc ht0 ht1 hr0 hr1 he e5 e6 e7
  have hlb := (OM.out.lt b rfl).2
  have OT := Lib.hid (own_new (w := w1) (base := w1.heap.size) (n := 1) (cap := 1) (size := 4) (e := 25) (cur := #[.slice (some ⟨b, 0, none⟩) M.length cb, .int .i64 t, .int .i64 r, .bool p]) (Nat.le_refl _) (by decide) (by decide) rfl)
  have gx := (G.refl w1).alloc (.cells #[.slice (some ⟨b, 0, none⟩) M.length cb, .int .i64 t, .int .i64 r, .bool p] 25)
  replace OM := Lib.hid (own_G OM.out gx)
  have G2 := Lib.hid (G1.out.trans gx)
  clear gx G1
  go_wp2_with fail
  refine (iPlayerText_any _ M.length cb t r p M _ (rd_own (by decide) cCue_len OM.out) rfl (by omega) hcb HWF.out (HE.out.G G2.out).tab).mono ?_
  rw [HTX.out]
  rintro e w3 ⟨rfl, g3⟩
  replace OM := Lib.hid (own_G OM.out g3)
  replace OT := Lib.hid (own_G OT.out g3)
  have G3 := Lib.hid (G2.out.trans g3)
  clear g3 G2
  dsimp only
  go_wp2_with fail
  refine (iReadPlayer_any s _ HSZ.out (HE.out.G G3.out)).mono ?_
  rw [HRD.out]
  intro e w4 hT
  obtain ⟨A4, c4, rfl, g4, o4⟩ := rplE_of hT
  clear hT
  replace OM := Lib.hid (own_G OM.out g4)
  replace OT := Lib.hid (own_G OT.out g4)
  have G4 := Lib.hid (G3.out.trans g4)
  clear g4 G3
  have O4 := Lib.hid o4
  clear o4
  dsimp only at O4 ⊢
  have gx := (G.refl w4).alloc (.cells #[.slice A4 M.length c4, .int .i64 t, .int .i64 r, .bool p] 25)
  replace OM := Lib.hid (own_G OM.out gx)
  replace OT := Lib.hid (own_G OT.out gx)
  replace O4 := Lib.hid (own_G O4.out gx)
  have G5 := Lib.hid (G4.out.trans gx)
  clear gx G4
  have hc0 := own_cellAt_mid OT.out (j := 0) rfl
  have hc1 := own_cellAt_mid OT.out (j := 1) rfl
  have hc2 := own_cellAt_mid OT.out (j := 2) rfl
  have hc3 := own_cellAt_mid OT.out (j := 3) rfl
  go_wp2_with fail
  refine (sSamePlayer_any _ _ M.length c4 M.length cb t r t r p p M M _ (rd_own (by decide) cCue_len O4.out) rfl (by omega) (rd_own (by decide) cCue_len OM.out) rfl (by omega)).mono ?_
  rw [samePl_self]
  rintro e w6 ⟨rfl, g6⟩
  clear hc0 hc1 hc2 hc3
  replace OM := Lib.hid (own_G OM.out g6)
  replace OT := Lib.hid (own_G OT.out g6)
  replace O4 := Lib.hid (own_G O4.out g6)
  have G6 := Lib.hid (G5.out.trans g6)
  clear g6 G5
  dsimp only
  clear O4
  have hc0 := own_cellAt_mid OT.out (j := 0) rfl
  have hc1 := own_cellAt_mid OT.out (j := 1) rfl
  have hc2 := own_cellAt_mid OT.out (j := 2) rfl
  have hc3 := own_cellAt_mid OT.out (j := 3) rfl
  have hy0 := own_frozen_of OT.out 0
  have hy1 := own_frozen_of OT.out 1
  have hy2 := own_frozen_of OT.out 2
  have hy3 := own_frozen_of OT.out 3
  go_wp2_with fail
  clear hc0 hc1 hc2 hc3 hy0 hy1 hy2 hy3
  have ST := Lib.hid (OT.out.stored 3 (.bool false))
  replace OM := Lib.hid (own_Gx OM.out ST.out.2 (.inr (by simp [Value.ownBlock]; omega)))
  have hsw1 : w.heap.size ≤ w1.heap.size := by have := (OM.out.lt b rfl).1; omega
  have G7 := Lib.hid (Gx.G G6.out ST.out.2 (by intro i hi; cases hi; exact hsw1))
  clear G6
  replace OT := Lib.hid ST.out.1
  clear ST
  obtain ⟨w7, HW7⟩ : ∃ w7, Hid (w6.setCell ⟨w1.heap.size, 3, none⟩ (.bool false) = w7) := ⟨_, rfl⟩
  rw [HW7.out] at OM OT G7 ⊢
  refine (iPlayOn_anyO _ M.length cb t r false M _ (rd_own (by decide) cCue_len OM.out) rfl (by omega) hcb HWF.out).mono ?_
  rw [E1.out]
  intro e w8 hT
  obtain ⟨A6, c6, rfl, g8, o8⟩ := resP_of hT
  clear hT
  replace OM := Lib.hid (own_G OM.out g8)
  replace OT := Lib.hid (own_G OT.out g8)
  have G8 := Lib.hid (G7.out.trans g8)
  clear g8 G7
  have O6 := Lib.hid o8
  clear o8
  dsimp only
  have gx := (G.refl w8).alloc (.cells #[.slice A6 M.length c6, .int .i64 t, .int .i64 r, .bool true] 25)
  replace OM := Lib.hid (own_G OM.out gx)
  replace OT := Lib.hid (own_G OT.out gx)
  replace O6 := Lib.hid (own_G O6.out gx)
  have G9 := Lib.hid (G8.out.trans gx)
  clear gx G8
  have cf0 := Lib.hid (show (w8.alloc (.cells #[.slice A6 M.length c6, .int .i64 t, .int .i64 r, .bool true] 25)).cell? ⟨w8.heap.size, 0, none⟩ = some (.slice A6 M.length c6) from (World.cell?_alloc_at _ _ _ 0 rfl).trans rfl)
  have cf1 := Lib.hid (show (w8.alloc (.cells #[.slice A6 M.length c6, .int .i64 t, .int .i64 r, .bool true] 25)).cell? ⟨w8.heap.size, 1, none⟩ = some (.int .i64 t) from (World.cell?_alloc_at _ _ _ 1 rfl).trans rfl)
  have cf2 := Lib.hid (show (w8.alloc (.cells #[.slice A6 M.length c6, .int .i64 t, .int .i64 r, .bool true] 25)).cell? ⟨w8.heap.size, 2, none⟩ = some (.int .i64 r) from (World.cell?_alloc_at _ _ _ 2 rfl).trans rfl)
  have cf3 := Lib.hid (show (w8.alloc (.cells #[.slice A6 M.length c6, .int .i64 t, .int .i64 r, .bool true] 25)).cell? ⟨w8.heap.size, 3, none⟩ = some (.bool true) from (World.cell?_alloc_at _ _ _ 3 rfl).trans rfl)
  go_wp2_with fail
  refine (iPauseOn_anyO _ M.length c6 t r true M _ (rd_own (by decide) cCue_len O6.out) rfl (by omega) (own_cap O6.out).1 HWF.out).mono ?_
  rw [E2.out]
  intro e w10 hT
  obtain ⟨A8, c8, rfl, g10, o10⟩ := resP_of hT
  clear hT
  replace OM := Lib.hid (own_G OM.out g10)
  replace OT := Lib.hid (own_G OT.out g10)
  replace O6 := Lib.hid (own_G O6.out g10)
  replace cf0 := Lib.hid (g10.cell cf0.out)
  replace cf1 := Lib.hid (g10.cell cf1.out)
  replace cf2 := Lib.hid (g10.cell cf2.out)
  replace cf3 := Lib.hid (g10.cell cf3.out)
  have G10 := Lib.hid (G9.out.trans g10)
  clear g10 G9
  have O8 := Lib.hid o10
  clear o10
  dsimp only
  have gx := (G.refl w10).alloc (.cells #[.slice A8 M.length c8, .int .i64 t, .int .i64 r, .bool false] 25)
  replace OM := Lib.hid (own_G OM.out gx)
  replace OT := Lib.hid (own_G OT.out gx)
  replace O6 := Lib.hid (own_G O6.out gx)
  replace O8 := Lib.hid (own_G O8.out gx)
  replace cf0 := Lib.hid (gx.cell cf0.out)
  replace cf1 := Lib.hid (gx.cell cf1.out)
  replace cf2 := Lib.hid (gx.cell cf2.out)
  replace cf3 := Lib.hid (gx.cell cf3.out)
  have G11 := Lib.hid (G10.out.trans gx)
  clear gx G10
  have ch0 := Lib.hid (show (w10.alloc (.cells #[.slice A8 M.length c8, .int .i64 t, .int .i64 r, .bool false] 25)).cell? ⟨w10.heap.size, 0, none⟩ = some (.slice A8 M.length c8) from (World.cell?_alloc_at _ _ _ 0 rfl).trans rfl)
  have ch1 := Lib.hid (show (w10.alloc (.cells #[.slice A8 M.length c8, .int .i64 t, .int .i64 r, .bool false] 25)).cell? ⟨w10.heap.size, 1, none⟩ = some (.int .i64 t) from (World.cell?_alloc_at _ _ _ 1 rfl).trans rfl)
  have ch2 := Lib.hid (show (w10.alloc (.cells #[.slice A8 M.length c8, .int .i64 t, .int .i64 r, .bool false] 25)).cell? ⟨w10.heap.size, 2, none⟩ = some (.int .i64 r) from (World.cell?_alloc_at _ _ _ 2 rfl).trans rfl)
  have ch3 := Lib.hid (show (w10.alloc (.cells #[.slice A8 M.length c8, .int .i64 t, .int .i64 r, .bool false] 25)).cell? ⟨w10.heap.size, 3, none⟩ = some (.bool false) from (World.cell?_alloc_at _ _ _ 3 rfl).trans rfl)
  have qcf0 := cf0.out
  have qcf1 := cf1.out
  have qcf2 := cf2.out
  have qcf3 := cf3.out
  go_wp2_with fail
  refine (iPlayOn_anyO _ M.length c6 t r true M _ (rd_own (by decide) cCue_len O6.out) rfl (by omega) (own_cap O6.out).1 HWF.out).mono ?_
  rw [E3.out]
  intro e w12 hT
  obtain ⟨A10, c10, rfl, g12, -⟩ := resP_of hT
  clear hT
  clear qcf0 qcf1 qcf2 qcf3
  replace OM := Lib.hid (own_G OM.out g12)
  replace OT := Lib.hid (own_G OT.out g12)
  replace O6 := Lib.hid (own_G O6.out g12)
  replace O8 := Lib.hid (own_G O8.out g12)
  replace cf0 := Lib.hid (g12.cell cf0.out)
  replace cf1 := Lib.hid (g12.cell cf1.out)
  replace cf2 := Lib.hid (g12.cell cf2.out)
  replace cf3 := Lib.hid (g12.cell cf3.out)
  replace ch0 := Lib.hid (g12.cell ch0.out)
  replace ch1 := Lib.hid (g12.cell ch1.out)
  replace ch2 := Lib.hid (g12.cell ch2.out)
  replace ch3 := Lib.hid (g12.cell ch3.out)
  have G12 := Lib.hid (G11.out.trans g12)
  clear g12 G11
  dsimp only [List.length_nil]
  have gx := (G.refl w12).alloc (.cells #[.slice A10 0 c10, .int .i64 0, .int .i64 0, .bool false] 25)
  replace OM := Lib.hid (own_G OM.out gx)
  replace OT := Lib.hid (own_G OT.out gx)
  replace O6 := Lib.hid (own_G O6.out gx)
  replace O8 := Lib.hid (own_G O8.out gx)
  replace cf0 := Lib.hid (gx.cell cf0.out)
  replace cf1 := Lib.hid (gx.cell cf1.out)
  replace cf2 := Lib.hid (gx.cell cf2.out)
  replace cf3 := Lib.hid (gx.cell cf3.out)
  replace ch0 := Lib.hid (gx.cell ch0.out)
  replace ch1 := Lib.hid (gx.cell ch1.out)
  replace ch2 := Lib.hid (gx.cell ch2.out)
  replace ch3 := Lib.hid (gx.cell ch3.out)
  have G13 := Lib.hid (G12.out.trans gx)
  clear gx G12
  have qcf0 := cf0.out
  have qcf1 := cf1.out
  have qcf2 := cf2.out
  have qcf3 := cf3.out
  go_wp2_with fail
  refine (iRemainingTime_any _ M.length c6 t r true M _ (rd_own (by decide) cCue_len O6.out) rfl (by omega) (own_cap O6.out).1 HWF.out).mono ?_
  rw [E5.out]
  rintro e w14 ⟨rfl, g14⟩
  clear qcf0 qcf1 qcf2 qcf3
  replace OM := Lib.hid (own_G OM.out g14)
  replace OT := Lib.hid (own_G OT.out g14)
  replace O6 := Lib.hid (own_G O6.out g14)
  replace O8 := Lib.hid (own_G O8.out g14)
  replace cf0 := Lib.hid (g14.cell cf0.out)
  replace cf1 := Lib.hid (g14.cell cf1.out)
  replace cf2 := Lib.hid (g14.cell cf2.out)
  replace cf3 := Lib.hid (g14.cell cf3.out)
  replace ch0 := Lib.hid (g14.cell ch0.out)
  replace ch1 := Lib.hid (g14.cell ch1.out)
  replace ch2 := Lib.hid (g14.cell ch2.out)
  replace ch3 := Lib.hid (g14.cell ch3.out)
  have G14 := Lib.hid (G13.out.trans g14)
  clear g14 G13
  dsimp only
  have hc0 := own_cellAt_mid OT.out (j := 0) rfl
  have hc1 := own_cellAt_mid OT.out (j := 1) rfl
  have hc2 := own_cellAt_mid OT.out (j := 2) rfl
  have hc3 := own_cellAt_mid OT.out (j := 3) rfl
  go_wp2_with fail
  refine (sShowEnd_any _ M.length cb M _ (rd_own (by decide) cCue_len OM.out) rfl (by omega) HWF.out HVC.out).mono ?_
  rw [HEN.out]
  rintro e w15 ⟨rfl, g15⟩
  clear hc0 hc1 hc2 hc3
  replace OM := Lib.hid (own_G OM.out g15)
  replace OT := Lib.hid (own_G OT.out g15)
  replace O6 := Lib.hid (own_G O6.out g15)
  replace O8 := Lib.hid (own_G O8.out g15)
  replace cf0 := Lib.hid (g15.cell cf0.out)
  replace cf1 := Lib.hid (g15.cell cf1.out)
  replace cf2 := Lib.hid (g15.cell cf2.out)
  replace cf3 := Lib.hid (g15.cell cf3.out)
  replace ch0 := Lib.hid (g15.cell ch0.out)
  replace ch1 := Lib.hid (g15.cell ch1.out)
  replace ch2 := Lib.hid (g15.cell ch2.out)
  replace ch3 := Lib.hid (g15.cell ch3.out)
  have G15 := Lib.hid (G14.out.trans g15)
  clear g15 G14
  dsimp only
  have hql : decide (Q < 0) = false := by simp; omega
  have hql2 : ¬ (Q < 0) := by omega
  have hc0 := own_cellAt_mid OT.out (j := 0) rfl
  have hc1 := own_cellAt_mid OT.out (j := 1) rfl
  have hc2 := own_cellAt_mid OT.out (j := 2) rfl
  have hc3 := own_cellAt_mid OT.out (j := 3) rfl
  have qcf0 := cf0.out
  have qcf1 := cf1.out
  have qcf2 := cf2.out
  have qcf3 := cf3.out
  have qch0 := ch0.out
  have qch1 := ch1.out
  have qch2 := ch2.out
  have qch3 := ch3.out
  go_wp2_with fail
  refine (sSamePlayer_any _ _ M.length c8 M.length cb t r t r false false M M _ (rd_own (by decide) cCue_len O8.out) rfl (by omega) (rd_own (by decide) cCue_len OM.out) rfl (by omega)).mono ?_
  rw [samePl_self]
  rintro e w16 ⟨rfl, g16⟩
  clear hc0 hc1 hc2 hc3
  clear qcf0 qcf1 qcf2 qcf3 qch0 qch1 qch2 qch3
  replace OM := Lib.hid (own_G OM.out g16)
  replace OT := Lib.hid (own_G OT.out g16)
  replace O6 := Lib.hid (own_G O6.out g16)
  replace O8 := Lib.hid (own_G O8.out g16)
  replace cf0 := Lib.hid (g16.cell cf0.out)
  replace cf1 := Lib.hid (g16.cell cf1.out)
  replace cf2 := Lib.hid (g16.cell cf2.out)
  replace cf3 := Lib.hid (g16.cell cf3.out)
  replace ch0 := Lib.hid (g16.cell ch0.out)
  replace ch1 := Lib.hid (g16.cell ch1.out)
  replace ch2 := Lib.hid (g16.cell ch2.out)
  replace ch3 := Lib.hid (g16.cell ch3.out)
  have G16 := Lib.hid (G15.out.trans g16)
  clear g16 G15
  dsimp only
  have hc0 := own_cellAt_mid OT.out (j := 0) rfl
  have hc1 := own_cellAt_mid OT.out (j := 1) rfl
  have hc2 := own_cellAt_mid OT.out (j := 2) rfl
  have hc3 := own_cellAt_mid OT.out (j := 3) rfl
  go_wp2_with fail
  refine (iTickBy_anyO _ M.length cb t r false M 1000 _ (rd_own (by decide) cCue_len OM.out) rfl (by omega) hcb HWF.out).mono ?_
  rw [E4.out]
  intro e w17 hT
  obtain ⟨A16, c16, B17, d17, rfl, g17, o17, -⟩ := resT_of hT
  clear hT
  clear hc0 hc1 hc2 hc3
  replace OM := Lib.hid (own_G OM.out g17)
  replace OT := Lib.hid (own_G OT.out g17)
  replace O6 := Lib.hid (own_G O6.out g17)
  replace O8 := Lib.hid (own_G O8.out g17)
  replace cf0 := Lib.hid (g17.cell cf0.out)
  replace cf1 := Lib.hid (g17.cell cf1.out)
  replace cf2 := Lib.hid (g17.cell cf2.out)
  replace cf3 := Lib.hid (g17.cell cf3.out)
  replace ch0 := Lib.hid (g17.cell ch0.out)
  replace ch1 := Lib.hid (g17.cell ch1.out)
  replace ch2 := Lib.hid (g17.cell ch2.out)
  replace ch3 := Lib.hid (g17.cell ch3.out)
  have G17 := Lib.hid (G16.out.trans g17)
  clear g17 G16
  have O16 := Lib.hid o17
  clear o17
  dsimp only
  have gx := (G.refl w17).alloc (.cells #[.slice A16 M.length c16, .int .i64 t, .int .i64 r, .bool false] 25)
  replace OM := Lib.hid (own_G OM.out gx)
  replace OT := Lib.hid (own_G OT.out gx)
  replace O6 := Lib.hid (own_G O6.out gx)
  replace O8 := Lib.hid (own_G O8.out gx)
  replace O16 := Lib.hid (own_G O16.out gx)
  replace cf0 := Lib.hid (gx.cell cf0.out)
  replace cf1 := Lib.hid (gx.cell cf1.out)
  replace cf2 := Lib.hid (gx.cell cf2.out)
  replace cf3 := Lib.hid (gx.cell cf3.out)
  replace ch0 := Lib.hid (gx.cell ch0.out)
  replace ch1 := Lib.hid (gx.cell ch1.out)
  replace ch2 := Lib.hid (gx.cell ch2.out)
  replace ch3 := Lib.hid (gx.cell ch3.out)
  have G18 := Lib.hid (G17.out.trans gx)
  clear gx G17
  have cs0 := Lib.hid (show (w17.alloc (.cells #[.slice A16 M.length c16, .int .i64 t, .int .i64 r, .bool false] 25)).cell? ⟨w17.heap.size, 0, none⟩ = some (.slice A16 M.length c16) from (World.cell?_alloc_at _ _ _ 0 rfl).trans rfl)
  have cs1 := Lib.hid (show (w17.alloc (.cells #[.slice A16 M.length c16, .int .i64 t, .int .i64 r, .bool false] 25)).cell? ⟨w17.heap.size, 1, none⟩ = some (.int .i64 t) from (World.cell?_alloc_at _ _ _ 1 rfl).trans rfl)
  have cs2 := Lib.hid (show (w17.alloc (.cells #[.slice A16 M.length c16, .int .i64 t, .int .i64 r, .bool false] 25)).cell? ⟨w17.heap.size, 2, none⟩ = some (.int .i64 r) from (World.cell?_alloc_at _ _ _ 2 rfl).trans rfl)
  have cs3 := Lib.hid (show (w17.alloc (.cells #[.slice A16 M.length c16, .int .i64 t, .int .i64 r, .bool false] 25)).cell? ⟨w17.heap.size, 3, none⟩ = some (.bool false) from (World.cell?_alloc_at _ _ _ 3 rfl).trans rfl)
  clear hql hql2
  have hc0 := own_cellAt_mid OT.out (j := 0) rfl
  have hc1 := own_cellAt_mid OT.out (j := 1) rfl
  have hc2 := own_cellAt_mid OT.out (j := 2) rfl
  have hc3 := own_cellAt_mid OT.out (j := 3) rfl
  go_wp2_with fail
  refine (sSamePlayer_any _ _ M.length c16 M.length cb t r t r false false M M _ (rd_own (by decide) cCue_len O16.out) rfl (by omega) (rd_own (by decide) cCue_len OM.out) rfl (by omega)).mono ?_
  rw [samePl_self]
  rintro e w19 ⟨rfl, g19⟩
  clear hc0 hc1 hc2 hc3
  replace OM := Lib.hid (own_G OM.out g19)
  replace OT := Lib.hid (own_G OT.out g19)
  replace O6 := Lib.hid (own_G O6.out g19)
  replace O8 := Lib.hid (own_G O8.out g19)
  replace O16 := Lib.hid (own_G O16.out g19)
  replace cf0 := Lib.hid (g19.cell cf0.out)
  replace cf1 := Lib.hid (g19.cell cf1.out)
  replace cf2 := Lib.hid (g19.cell cf2.out)
  replace cf3 := Lib.hid (g19.cell cf3.out)
  replace ch0 := Lib.hid (g19.cell ch0.out)
  replace ch1 := Lib.hid (g19.cell ch1.out)
  replace ch2 := Lib.hid (g19.cell ch2.out)
  replace ch3 := Lib.hid (g19.cell ch3.out)
  replace cs0 := Lib.hid (g19.cell cs0.out)
  replace cs1 := Lib.hid (g19.cell cs1.out)
  replace cs2 := Lib.hid (g19.cell cs2.out)
  replace cs3 := Lib.hid (g19.cell cs3.out)
  have G19 := Lib.hid (G18.out.trans g19)
  clear g19 G18
  dsimp only
  by_cases hq : Q ≤ 600000
  case neg =>
    have hd : decide (600000 < Q) = true := by simp; omega
    have hd2 : 600000 < Q := by omega
    go_wp2
    go_ret
    exact ⟨rfl, G19.out⟩
  have hd : decide (600000 < Q) = false := by simp; omega
  have hd2 : ¬ (600000 < Q) := by omega
  replace E6 := Lib.hid (E6.out hq)
  replace E7 := Lib.hid (E7.out hq)
  have qcf0 := cf0.out
  have qcf1 := cf1.out
  have qcf2 := cf2.out
  have qcf3 := cf3.out
  go_wp2_with fail
  refine (iTickBy_anyO _ M.length c6 t r true M Q _ (rd_own (by decide) cCue_len O6.out) rfl (by omega) (own_cap O6.out).1 HWF.out).mono ?_
  rw [E6.out]
  intro e w20 hT
  obtain ⟨A19, c19, B20, d20, rfl, g20, o20, -⟩ := resT_of hT
  clear hT
  clear qcf0 qcf1 qcf2 qcf3
  replace OM := Lib.hid (own_G OM.out g20)
  replace OT := Lib.hid (own_G OT.out g20)
  replace O6 := Lib.hid (own_G O6.out g20)
  replace O8 := Lib.hid (own_G O8.out g20)
  replace O16 := Lib.hid (own_G O16.out g20)
  replace cf0 := Lib.hid (g20.cell cf0.out)
  replace cf1 := Lib.hid (g20.cell cf1.out)
  replace cf2 := Lib.hid (g20.cell cf2.out)
  replace cf3 := Lib.hid (g20.cell cf3.out)
  replace ch0 := Lib.hid (g20.cell ch0.out)
  replace ch1 := Lib.hid (g20.cell ch1.out)
  replace ch2 := Lib.hid (g20.cell ch2.out)
  replace ch3 := Lib.hid (g20.cell ch3.out)
  replace cs0 := Lib.hid (g20.cell cs0.out)
  replace cs1 := Lib.hid (g20.cell cs1.out)
  replace cs2 := Lib.hid (g20.cell cs2.out)
  replace cs3 := Lib.hid (g20.cell cs3.out)
  have G20 := Lib.hid (G19.out.trans g20)
  clear g20 G19
  clear o20 hd hd2
  dsimp only
  have gx := (G.refl w20).alloc (.cells #[.slice A19 M.length c19, .int .i64 en, .int .i64 r, .bool false] 25)
  replace OM := Lib.hid (own_G OM.out gx)
  replace OT := Lib.hid (own_G OT.out gx)
  replace O6 := Lib.hid (own_G O6.out gx)
  replace O8 := Lib.hid (own_G O8.out gx)
  replace O16 := Lib.hid (own_G O16.out gx)
  replace cf0 := Lib.hid (gx.cell cf0.out)
  replace cf1 := Lib.hid (gx.cell cf1.out)
  replace cf2 := Lib.hid (gx.cell cf2.out)
  replace cf3 := Lib.hid (gx.cell cf3.out)
  replace ch0 := Lib.hid (gx.cell ch0.out)
  replace ch1 := Lib.hid (gx.cell ch1.out)
  replace ch2 := Lib.hid (gx.cell ch2.out)
  replace ch3 := Lib.hid (gx.cell ch3.out)
  replace cs0 := Lib.hid (gx.cell cs0.out)
  replace cs1 := Lib.hid (gx.cell cs1.out)
  replace cs2 := Lib.hid (gx.cell cs2.out)
  replace cs3 := Lib.hid (gx.cell cs3.out)
  have G21 := Lib.hid (G20.out.trans gx)
  clear gx G20
  have ct0 := Lib.hid (show (w20.alloc (.cells #[.slice A19 M.length c19, .int .i64 en, .int .i64 r, .bool false] 25)).cell? ⟨w20.heap.size, 0, none⟩ = some (.slice A19 M.length c19) from (World.cell?_alloc_at _ _ _ 0 rfl).trans rfl)
  have ct1 := Lib.hid (show (w20.alloc (.cells #[.slice A19 M.length c19, .int .i64 en, .int .i64 r, .bool false] 25)).cell? ⟨w20.heap.size, 1, none⟩ = some (.int .i64 en) from (World.cell?_alloc_at _ _ _ 1 rfl).trans rfl)
  have ct2 := Lib.hid (show (w20.alloc (.cells #[.slice A19 M.length c19, .int .i64 en, .int .i64 r, .bool false] 25)).cell? ⟨w20.heap.size, 2, none⟩ = some (.int .i64 r) from (World.cell?_alloc_at _ _ _ 2 rfl).trans rfl)
  have ct3 := Lib.hid (show (w20.alloc (.cells #[.slice A19 M.length c19, .int .i64 en, .int .i64 r, .bool false] 25)).cell? ⟨w20.heap.size, 3, none⟩ = some (.bool false) from (World.cell?_alloc_at _ _ _ 3 rfl).trans rfl)
  by_cases hz : Q = 0
  case pos =>
    have hd : (Q == 0) = true := by simp [hz]
    clear hz
    go_wp2
    go_ret
    exact ⟨rfl, G21.out⟩
  have hd : (Q == 0) = false := by simp [hz]
  obtain ⟨u, hu, e8⟩ := E7.out (by omega)
  have hw : IntKind.i64.wrap (Q - 1) = Q - 1 := IntWalk.i64_in _ (by omega)
  obtain ⟨Q1, HQ1⟩ : ∃ x, Q - 1 = x := ⟨_, rfl⟩
  rw [HQ1] at e8 hw
  have E8 := Lib.hid e8
  have HU := Lib.hid hu
  clear hz e8 hu
  have qcf0 := cf0.out
  have qcf1 := cf1.out
  have qcf2 := cf2.out
  have qcf3 := cf3.out
  go_wp2_with fail
  refine (iTickBy_anyO _ M.length c6 t r true M Q1 _ (rd_own (by decide) cCue_len O6.out) rfl (by omega) (own_cap O6.out).1 HWF.out).mono ?_
  rw [E8.out]
  intro e w22 hT
  obtain ⟨A22, c22, B22, d22, rfl, g22, o22, -⟩ := resT_of hT
  clear hT
  clear qcf0 qcf1 qcf2 qcf3
  replace OM := Lib.hid (own_G OM.out g22)
  replace OT := Lib.hid (own_G OT.out g22)
  replace O6 := Lib.hid (own_G O6.out g22)
  replace O8 := Lib.hid (own_G O8.out g22)
  replace O16 := Lib.hid (own_G O16.out g22)
  replace cf0 := Lib.hid (g22.cell cf0.out)
  replace cf1 := Lib.hid (g22.cell cf1.out)
  replace cf2 := Lib.hid (g22.cell cf2.out)
  replace cf3 := Lib.hid (g22.cell cf3.out)
  replace ch0 := Lib.hid (g22.cell ch0.out)
  replace ch1 := Lib.hid (g22.cell ch1.out)
  replace ch2 := Lib.hid (g22.cell ch2.out)
  replace ch3 := Lib.hid (g22.cell ch3.out)
  replace cs0 := Lib.hid (g22.cell cs0.out)
  replace cs1 := Lib.hid (g22.cell cs1.out)
  replace cs2 := Lib.hid (g22.cell cs2.out)
  replace cs3 := Lib.hid (g22.cell cs3.out)
  replace ct0 := Lib.hid (g22.cell ct0.out)
  replace ct1 := Lib.hid (g22.cell ct1.out)
  replace ct2 := Lib.hid (g22.cell ct2.out)
  replace ct3 := Lib.hid (g22.cell ct3.out)
  have G22 := Lib.hid (G21.out.trans g22)
  clear g22 G21
  clear o22 hd hw HQ1
  dsimp only
  have gx := (G.refl w22).alloc (.cells #[.slice A22 M.length c22, .int .i64 u, .int .i64 r, .bool true] 25)
  replace OM := Lib.hid (own_G OM.out gx)
  replace OT := Lib.hid (own_G OT.out gx)
  replace O6 := Lib.hid (own_G O6.out gx)
  replace O8 := Lib.hid (own_G O8.out gx)
  replace O16 := Lib.hid (own_G O16.out gx)
  replace cf0 := Lib.hid (gx.cell cf0.out)
  replace cf1 := Lib.hid (gx.cell cf1.out)
  replace cf2 := Lib.hid (gx.cell cf2.out)
  replace cf3 := Lib.hid (gx.cell cf3.out)
  replace ch0 := Lib.hid (gx.cell ch0.out)
  replace ch1 := Lib.hid (gx.cell ch1.out)
  replace ch2 := Lib.hid (gx.cell ch2.out)
  replace ch3 := Lib.hid (gx.cell ch3.out)
  replace cs0 := Lib.hid (gx.cell cs0.out)
  replace cs1 := Lib.hid (gx.cell cs1.out)
  replace cs2 := Lib.hid (gx.cell cs2.out)
  replace cs3 := Lib.hid (gx.cell cs3.out)
  replace ct0 := Lib.hid (gx.cell ct0.out)
  replace ct1 := Lib.hid (gx.cell ct1.out)
  replace ct2 := Lib.hid (gx.cell ct2.out)
  replace ct3 := Lib.hid (gx.cell ct3.out)
  have G23 := Lib.hid (G22.out.trans gx)
  clear gx G22
  have cu0 := Lib.hid (show (w22.alloc (.cells #[.slice A22 M.length c22, .int .i64 u, .int .i64 r, .bool true] 25)).cell? ⟨w22.heap.size, 0, none⟩ = some (.slice A22 M.length c22) from (World.cell?_alloc_at _ _ _ 0 rfl).trans rfl)
  have cu1 := Lib.hid (show (w22.alloc (.cells #[.slice A22 M.length c22, .int .i64 u, .int .i64 r, .bool true] 25)).cell? ⟨w22.heap.size, 1, none⟩ = some (.int .i64 u) from (World.cell?_alloc_at _ _ _ 1 rfl).trans rfl)
  have cu2 := Lib.hid (show (w22.alloc (.cells #[.slice A22 M.length c22, .int .i64 u, .int .i64 r, .bool true] 25)).cell? ⟨w22.heap.size, 2, none⟩ = some (.int .i64 r) from (World.cell?_alloc_at _ _ _ 2 rfl).trans rfl)
  have cu3 := Lib.hid (show (w22.alloc (.cells #[.slice A22 M.length c22, .int .i64 u, .int .i64 r, .bool true] 25)).cell? ⟨w22.heap.size, 3, none⟩ = some (.bool true) from (World.cell?_alloc_at _ _ _ 3 rfl).trans rfl)
  have hd : decide (u < en) = true := decide_eq_true HU.out
  go_wp2
  go_ret
  exact ⟨rfl, G23.out⟩
end Go.Proofs.YtecakcgkibemaaaGreatDoor
