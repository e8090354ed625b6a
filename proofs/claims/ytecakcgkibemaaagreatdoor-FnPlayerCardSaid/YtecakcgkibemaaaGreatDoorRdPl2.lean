/-
  Walks: a player read from a text, by the program.
-/
import Derived.Test.YtecakcgkibemaaaGreatDoorRdPl
namespace Go.Proofs.YtecakcgkibemaaaGreatDoor
open Go.RowKit

theorem rd_tail {w : World} {b : Nat} {y : ByteArray} {L : List ByteArray} (h : Rd w (some ⟨b, 0, none⟩) 1 sv (y :: L)) : Rd w (some ⟨b, 1, none⟩) 1 sv L := fun _ => by
  obtain ⟨b', o, e, hc⟩ := h (by simp)
  simp only [Option.some.injEq, Addr.mk.injEq, and_true] at e
  obtain ⟨rfl, rfl⟩ := e
  refine ⟨b, 1, rfl, fun i x j u hi hj => ?_⟩
  have := hc (i + 1) x j u hi hj
  rwa [show 0 + ((i + 1) * 1 + j) = 1 + (i * 1 + j) by omega] at this
set_option maxRecDepth 20000 in
set_option maxHeartbeats 16000000 in
theorem iReadPlayer_any (s : ByteArray) (w : World) (hs : s.size ≤ 1048576) (hE : Env w) :
    Calls Tryz.prog 5 #[.string s] w (rplE w (rplR s)) := by
  obtain ⟨i0, hi, hz0, hz1, hz2⟩ := info_parts infoCue
  have HI := Lib.hid (And.intro hi (And.intro hz0 (And.intro hz1 hz2)))
  clear hi hz0 hz1 hz2
  have HE := Lib.hid hE
  obtain ⟨w0, HW0⟩ : ∃ x, Hid (w.alloc (.cells #[.slice none 0 0, .int .i64 0, .int .i64 0, .bool false] 25) = x) := ⟨_, rfl⟩
  have OQ0 := Lib.hid (own_new (w := w) (base := w.heap.size) (n := 1) (cap := 1) (size := 4) (e := 25) (cur := #[.slice none 0 0, .int .i64 0, .int .i64 0, .bool false]) (Nat.le_refl _) (by decide) (by decide) rfl)
  have GA := Lib.hid ((G.refl w).alloc (.cells #[.slice none 0 0, .int .i64 0, .int .i64 0, .bool false] 25))
  have hsz0 : (w.alloc (.cells #[.slice none 0 0, .int .i64 0, .int .i64 0, .bool false] 25)).heap.size = w.heap.size + 1 := by simp
  have KS := Lib.hid (fun (m : Int) (hm : w0.cell? ⟨0, 0, none⟩ = some (.int .i64 m)) => Tryz.strings_Split s ⟨#[47]⟩ m w0 (by omega) hm (by decide))
  rw [splitB_S, countB_S] at KS
  have hpl := splitS_len 47 s
  have HPM := Lib.hid (fun (y : ByteArray) (hy : y ∈ splitS 47 s) => (splitS_mem hy).1)
  have HLEN := Lib.hid (fun (hd : ByteArray) (W : List ByteArray) (h : splitS 47 s = hd :: W) (hl : (wordsS hd).length ≠ 3) => pl_len h (.inr hl))
  have HEQ := Lib.hid (fun (hd n0 n1 n2 : ByteArray) (W : List ByteArray) (h : splitS 47 s = hd :: W) (h2 : wordsS hd = [n0, n1, n2]) => pl_eqW h h2)
  obtain ⟨R, HRR⟩ : ∃ R, Hid (rplR s = R) := ⟨_, rfl⟩
  rw [HRR.out] at HLEN HEQ ⊢
  obtain ⟨P, HP⟩ : ∃ P, Hid (splitS 47 s = P) := ⟨_, rfl⟩
  rw [HP.out] at HPM KS HLEN HEQ hpl
  obtain ⟨hd, W, rfl⟩ : ∃ hd W, P = hd :: W := by
    cases P with
    | nil => simp at hpl
    | cons x r => exact ⟨x, r, rfl⟩
  obtain ⟨m, Hm⟩ : ∃ m, Hid (W.length = m) := ⟨_, rfl⟩
  rw [show (hd :: W).length = m + 1 by rw [List.length_cons, Hm.out]] at KS hpl
  have hsh := HPM.out hd (by simp)
  have KW := Lib.hid (fun (X : World) (g : G w X) => SplitWords_any hd (by omega) X (HE.out.G g))
  have HPM2 := Lib.hid (fun (y : ByteArray) (hy : y ∈ wordsS hd) => (splitS_mem (List.mem_filter.1 hy).1).1)
  have KC := Lib.hid (fun (y : ByteArray) (hy : y ∈ W) (X : World) (g : G w X) => iReadCue_any y (by have := HPM.out y (by simp [hy]); omega) X (HE.out.G g))
  replace HLEN := Lib.hid (HLEN.out hd W rfl)
  replace HEQ := Lib.hid (fun n0 n1 n2 => HEQ.out hd n0 n1 n2 W rfl)
  obtain ⟨Q, HQ⟩ : ∃ Q, Hid (wordsS hd = Q) := ⟨_, rfl⟩
  rw [HQ.out] at KW HPM2 HLEN HEQ
  have HR1 := Lib.hid (rd_lst w0 (hd :: W) 9)
  obtain ⟨ml, HML⟩ : ∃ ml, Hid (w0.cell? ⟨0, 0, none⟩ = some (.int .i64 ml)) := by
    obtain ⟨ml, h⟩ := HE.out.most
    rw [← HW0.out]
    exact ⟨ml, Lib.hid (GA.out.cell h)⟩
  replace KS := Lib.hid (KS.out ml HML.out)
  obtain ⟨w1, HW1⟩ : ∃ x, Hid (w0.alloc (.cells ((hd :: W).map Value.string).toArray 9) = x) := ⟨_, rfl⟩
  have G1 := Lib.hid (show G w w1 by rw [← HW1.out, ← HW0.out]; exact GA.out.alloc _)
  have OQ1 := Lib.hid (show w1.ownsRow w.heap.size 25 4 (.slice (some ⟨w.heap.size, 0, none⟩) 1 1) 1 [.slice none 0 0, .int .i64 0, .int .i64 0, .bool false] by rw [← HW1.out, ← HW0.out]; exact own_G OQ0.out ((G.refl _).alloc _))
  rw [HW1.out] at KS HR1
  rw [← HW0.out] at KS HR1
  rw [hsz0] at KS HR1
  have h0 : w1.cell? ⟨w.heap.size + 1, 0, none⟩ = some (.string hd) := by
    obtain ⟨b, o, e, hc⟩ := HR1.out (by simp)
    simp only [Option.some.injEq, Addr.mk.injEq, and_true] at e
    obtain ⟨rfl, rfl⟩ := e
    exact hc 0 hd 0 _ rfl rfl
  have hX0 : (0 : Int) < ((m + 1 : Nat) : Int) := by omega
  have hX1 : (1 : Int) ≤ ((m + 1 : Nat) : Int) := by omega
  have hX2 : (0 : Int) < (m : Int) + 1 := by omega
  clear HML HW1 HW0 GA OQ0 hsz0 HP HQ
  by_cases l2 : Q.length = 3
  case neg =>
    have H := Lib.hid (HLEN.out l2)
    obtain ⟨k, Hk⟩ : ∃ k, Hid (Q.length = k) := ⟨_, rfl⟩
    rw [Hk.out] at l2
    have hd3 : ((k : Int) == 3) = false := by rw [beq_eq_false_iff_ne]; omega
    have hd4 : ((k : Int) != 3) = true := by simp [bne, hd3]
    have hd5 : ¬ ((k : Int) = 3) := by omega
    clear l2
    go_enter Tryz.func5, Tryz.ntmps5
    go_wp2_with (first | (go_at_call 15; (with_reducible refine KS.out.mono ?_); rintro e w2 ⟨rfl, rfl⟩) | (go_at_call 16; (with_reducible refine (KW.out _ G1.out).mono ?_); rintro e w2 ⟨v2, rfl, o2, g2⟩; obtain ⟨A2, c2, rfl, hc2⟩ := own_sl o2; have G2 := Lib.hid (G1.out.trans g2); have OQ2 := Lib.hid (own_G OQ1.out g2); clear o2 g2 hc2 h0; rw [Hk.out]; have hcq0 := own_cellAt_mid OQ2.out (j := 0) rfl; have hcq1 := own_cellAt_mid OQ2.out (j := 1) rfl; have hcq2 := own_cellAt_mid OQ2.out (j := 2) rfl; have hcq3 := own_cellAt_mid OQ2.out (j := 3) rfl; have hyq0 := own_frozen_of OQ2.out 0; have hyq1 := own_frozen_of OQ2.out 1; have hyq2 := own_frozen_of OQ2.out 2; have hyq3 := own_frozen_of OQ2.out 3))
    clear hcq0 hcq1 hcq2 hcq3 hyq0 hyq1 hyq2 hyq3
    have S0 := Lib.hid (OQ2.out.stored 0 (.slice none 0 0))
    have S1 := Lib.hid (S0.out.1.stored 1 (.int .i64 0))
    have S2 := Lib.hid (S1.out.1.stored 2 (.int .i64 0))
    have S3 := Lib.hid (S2.out.1.stored 3 (.bool false))
    have k0 := own_cellAt_mid S3.out.1 (j := 0) rfl
    have k1 := own_cellAt_mid S3.out.1 (j := 1) rfl
    have k2 := own_cellAt_mid S3.out.1 (j := 2) rfl
    have k3 := own_cellAt_mid S3.out.1 (j := 3) rfl
    exact bodyPost_ret (v := .tuple #[.agg #[.slice none 0 0, .int .i64 0, .int .i64 0, .bool false], .bool false]) (by simp [results, Tryz.results5, go_sem, k0, k1, k2, k3]) rfl (rpl_nil H.out (Gx.G G2.out (Gx.trans (Gx.trans (Gx.trans S0.out.2 S1.out.2) S2.out.2) S3.out.2) (by intro i hi; cases hi; exact Nat.le_refl _)))
  obtain ⟨n0, n1, n2, rfl⟩ := three_of l2
  replace HEQ := Lib.hid (HEQ.out n0 n1 n2 rfl)
  clear HLEN l2
  have hs1 := HPM2.out n1 (by simp)
  have hs2 := HPM2.out n2 (by simp)
  have KN := Lib.hid (fun (A : Option Addr) (c : Nat) (X : World) (hr : Rd X A 1 sv [n1, n2]) (g : G w X) => readNumbers_any A 2 c [n1, n2] X hr rfl (by omega) (fun x hx => by
    simp only [List.mem_cons, List.mem_nil_iff, or_false] at hx
    rcases hx with rfl | rfl <;> omega) (HE.out.G g))
  have HN2 := Lib.hid (show numsR [n1, n2] = if [n1, n2].all okN = true then ([valN n1, valN n2], true) else ([], false) from rfl)
  clear hs1 hs2 hsh HPM2
  go_enter Tryz.func5, Tryz.ntmps5
  go_upto_region 5 with (first | (go_at_call 15; (with_reducible refine KS.out.mono ?_); rintro e w2 ⟨rfl, rfl⟩) | (go_at_call 16; (with_reducible refine (KW.out _ G1.out).mono ?_); rintro e w2 ⟨v2, rfl, o2, g2⟩; obtain ⟨A2, c2, rfl, hc2⟩ := own_sl o2; obtain ⟨gQ, rfl⟩ := own_head o2 (by simp); have G2 := Lib.hid (G1.out.trans g2); have OQ2 := Lib.hid (own_G OQ1.out g2); have RP2 := Lib.hid (HR1.out.G g2); have HX0 := Lib.hid (own_cellAt_mid o2 (j := 0) (u := .string n0) rfl); have HR2 := Lib.hid (rd_tail (rd_own (L := [n0, n1, n2]) (by decide) (fun _ => rfl) o2)); clear o2 g2 h0; simp only [List.length_cons, List.length_nil] at hc2 ⊢))
  have hcq1 : ¬ (c2 = 1) := by omega
  have hcq2 : (1 : Int) ≤ (c2 : Int) := by omega
  obtain ⟨ta, HTA⟩ : ∃ x, Hid (valN n1 = x) := ⟨_, rfl⟩
  obtain ⟨tb, HTB⟩ : ∃ x, Hid (valN n2 = x) := ⟨_, rfl⟩
  rw [HTA.out, HTB.out] at HN2 HEQ
  cases hok : [n1, n2].all okN
  · have H := Lib.hid (show R = (prZ, false) by
      rw [HEQ.out, if_neg]
      rintro ⟨k1, k2, -⟩
      simp only [List.all_cons, List.all_nil, Bool.and_true, k1, k2] at hok
      cases hok)
    rw [hok] at HN2
    rw [show numsR [n1, n2] = ([], false) by rw [HN2.out]; rfl] at KN
    unfold ResB at KN
    simp only [List.length_nil] at KN
    clear hok HEQ
    go_wp2_with (go_at_call 17; (with_reducible refine (KN.out _ _ _ HR2.out G2.out).mono ?_); rintro e w3 ⟨A3, c3, rfl, g3, o3⟩; have G3 := Lib.hid (G2.out.trans g3); have OQ3 := Lib.hid (own_G OQ2.out g3); clear g3 o3; have hcq0 := own_cellAt_mid OQ3.out (j := 0) rfl; have hcq1 := own_cellAt_mid OQ3.out (j := 1) rfl; have hcq2 := own_cellAt_mid OQ3.out (j := 2) rfl; have hcq3 := own_cellAt_mid OQ3.out (j := 3) rfl; have hyq0 := own_frozen_of OQ3.out 0; have hyq1 := own_frozen_of OQ3.out 1; have hyq2 := own_frozen_of OQ3.out 2; have hyq3 := own_frozen_of OQ3.out 3)
    clear hcq0 hcq1 hcq2 hcq3 hyq0 hyq1 hyq2 hyq3
    have S0 := Lib.hid (OQ3.out.stored 0 (.slice none 0 0))
    have S1 := Lib.hid (S0.out.1.stored 1 (.int .i64 0))
    have S2 := Lib.hid (S1.out.1.stored 2 (.int .i64 0))
    have S3 := Lib.hid (S2.out.1.stored 3 (.bool false))
    have k0 := own_cellAt_mid S3.out.1 (j := 0) rfl
    have k1 := own_cellAt_mid S3.out.1 (j := 1) rfl
    have k2 := own_cellAt_mid S3.out.1 (j := 2) rfl
    have k3 := own_cellAt_mid S3.out.1 (j := 3) rfl
    exact bodyPost_ret (v := .tuple #[.agg #[.slice none 0 0, .int .i64 0, .int .i64 0, .bool false], .bool false]) (by simp [results, Tryz.results5, go_sem, k0, k1, k2, k3]) rfl (rpl_nil H.out (Gx.G G3.out (Gx.trans (Gx.trans (Gx.trans S0.out.2 S1.out.2) S2.out.2) S3.out.2) (by intro i hi; cases hi; exact Nat.le_refl _)))
  · rw [hok] at HN2
    rw [show numsR [n1, n2] = ([ta, tb], true) by rw [HN2.out]; rfl] at KN
    unfold ResB at KN
    simp only [List.length_cons, List.length_nil] at KN
    obtain ⟨pb, HPB⟩ : ∃ x, Hid (decide (n0 = mkB wPlay) = x) := ⟨_, rfl⟩
    have hq0 : (n0.toList == [112, 108, 97, 121]) = pb := by
      rw [← HPB.out]
      by_cases h : n0 = mkB wPlay
      · rw [decide_eq_true h, h]; exact str_yes wPlay
      · rw [decide_eq_false h]; exact str_no (l := wPlay) h
    have HFIN := Lib.hid (show R = if W.all (fun y => (rcuR y).2) = true ∧ vplB (W.map fun y => (rcuR y).1) ta tb = true ∧ plT (W.map fun y => (rcuR y).1) ta tb pb = s then (⟨W.map fun y => (rcuR y).1, ta, tb, pb⟩, true) else (prZ, false) by
      rw [HEQ.out, HPB.out]
      simp only [List.all_cons, List.all_nil, Bool.and_true, Bool.and_eq_true] at hok
      simp only [hok.1, hok.2, true_and])
    clear hok HEQ HPB HN2 HTA HTB
    go_upto_region 8 with (go_at_call 17; (with_reducible refine (KN.out _ _ _ HR2.out G2.out).mono ?_); rintro e w3 ⟨A3, c3, rfl, g3, o3⟩; have G3 := Lib.hid (G2.out.trans g3); have OQ3 := Lib.hid (own_G OQ2.out g3); have RP3 := Lib.hid (RP2.out.G g3); obtain ⟨gN, rfl⟩ := own_head o3 (by simp); have hy0 := own_cellAt_mid o3 (j := 0) (u := .int .i64 ta) rfl; have hy1 := own_cellAt_mid o3 (j := 1) (u := .int .i64 tb) rfl; have hx0 := g3.cell HX0.out; clear g3 o3)
    clear KN RP2 HR1 OQ2 OQ1 G2 G1 HR2 HX0 hcq1 hcq2 hc2 KS KW
    go_region_held3 (fun w' => w'.cell? ⟨gN, 0, none⟩ = some (.int .i64 ta) ∧ w'.cell? ⟨gN, 1, none⟩ = some (.int .i64 tb) ∧ w'.cell? ⟨gQ, 0, none⟩ = some (.string n0)) (first | go_keep) (fail)
    clear hx0 hy0 hy1
    have OB0 := Lib.hid (own_new (w := w3) (base := w3.heap.size) (n := 1) (cap := 1) (size := 4) (e := 25) (cur := #[.slice none 0 0, .int .i64 ta, .int .i64 tb, .bool pb]) (Nat.le_refl _) (by decide) (by decide) rfl)
    obtain ⟨wx, HWX⟩ : ∃ wx, Hid ((w3.alloc (.cells #[.slice none 0 0, .int .i64 ta, .int .i64 tb, .bool pb] 25)).drew = wx) := ⟨_, rfl⟩
    have GX := Lib.hid (show G w3 wx by rw [← HWX.out]; exact ((G.refl w3).alloc _).drew)
    have OBx := Lib.hid (show wx.ownsRow w3.heap.size 25 4 (.slice (some ⟨w3.heap.size, 0, none⟩) 1 1) 1 [.slice none 0 0, .int .i64 ta, .int .i64 tb, .bool pb] by rw [← HWX.out]; exact own_G OB0.out (G.refl _).drew)
    have hwx : wx.heap.size = w3.heap.size + 1 := by rw [← HWX.out]; simp [World.drew]
    obtain ⟨ao, HIF, RW⟩ : ∃ ao : Nat, Hid ((if m = 0 then some (⟨w.heap.size + 1, 0, none⟩ : Addr) else some ⟨w.heap.size + 1, 1, none⟩) = some ⟨w.heap.size + 1, ao, none⟩) ∧ Hid (Rd w3 (some ⟨w.heap.size + 1, ao, none⟩) 1 sv W) := by
      by_cases h1 : m = 0
      · refine ⟨0, Lib.hid (if_pos h1), Lib.hid ?_⟩
        rw [List.length_eq_zero_iff.1 (show W.length = 0 by rw [Hm.out]; exact h1)]
        exact Rd.nil _ _ _ _
      · exact ⟨1, Lib.hid (if_neg h1), Lib.hid (rd_tail RP3.out)⟩
    have hif := HIF.out
    rw [HWX.out]
    clear OB0 HWX HIF RP3
    have OC0 := Lib.hid (World.ownsRow_nil wx (w3.heap.size + 1) 49 6)
    obtain ⟨pq, HPQ⟩ : ∃ x : Nat, x = w3.heap.size := ⟨_, rfl⟩
    rw [← HPQ] at OBx OC0 hwx ⊢
    have hq3 : w.heap.size < pq := by rw [HPQ]; exact (OQ3.out.lt w.heap.size rfl).2
    have HPQ2 := Lib.hid HPQ.symm
    clear HPQ
    go_wp2
    clear hif
    go_loopw [46] (fun i wr => ∃ (k : Nat) (M : List SCue) (A : Option Addr) (c : Nat), k ≤ m ∧ i = .int .i64 (k : Int) ∧ M.length ≤ k ∧ pq + 1 ≤ wr.heap.size ∧ Hid (wr.ownsRow pq 25 4 (.slice (some ⟨pq, 0, none⟩) 1 1) 1 [.slice A M.length c, .int .i64 ta, .int .i64 tb, .bool pb]) ∧ Hid (wr.ownsRow (pq + 1) 49 6 (.slice A M.length c) M.length (M.flatMap cCue)) ∧ Hid (M = (W.take k).map (fun y => (rcuR y).1)) ∧ Hid ((W.take k).all (fun y => (rcuR y).2) = true) ∧ Hid (G w3 wr)) (fun i _ => m - (intOf i).toNat)
    case atStart => exact ⟨0, [], none, 0, Nat.zero_le _, rfl, Nat.le_refl _, by omega, OBx, OC0, Lib.hid rfl, Lib.hid rfl, GX⟩
    case round =>
      clear OBx GX OC0 hwx
      obtain ⟨k, M, A, c, hk, rfl, hM, hszr, OB, OC, HM, HO, G0⟩ := hrel
      have hk0 : (0 : Int) ≤ (k : Int) := by omega
      by_cases hlt : k < m
      · have hlt2 : (k : Int) < (m : Int) := by omega
        obtain ⟨b, o, y, hbo, hy, hcy⟩ := (RW.out.G G0.out).str (k := k) (by rw [Hm.out]; exact hlt)
        simp only [Option.some.injEq, Addr.mk.injEq, and_true] at hbo
        obtain ⟨rfl, rfl⟩ := hbo
        have KY := Lib.hid (KC.out y (List.mem_of_getElem? hy) wr (G3.out.trans G0.out))
        have HALL := Lib.hid (fun (h : (rcuR y).2 = false) => all_false (p := fun y => (rcuR y).2) hy h)
        have HT := Lib.hid (take_snoc hy)
        clear hy
        obtain ⟨id, ti, le, tg, ac, va, is, HX⟩ : ∃ id ti le tg ac va is, Hid (rcuR y = (⟨id, ti, le, tg, ac, va⟩, is)) := ⟨_, _, _, _, _, _, _, Lib.hid rfl⟩
        have HM2 := Lib.hid (show M ++ [(⟨id, ti, le, tg, ac, va⟩ : SCue)] = (W.take (k + 1)).map (fun y => (rcuR y).1) by rw [HT.out, List.map_append, ← HM.out]; simp only [List.map_cons, List.map_nil, HX.out])
        have HO2 := Lib.hid (show (W.take (k + 1)).all (fun y => (rcuR y).2) = is by rw [HT.out, List.all_append, HO.out]; simp only [List.all_cons, List.all_nil, HX.out, Bool.and_true, Bool.true_and])
        rw [HX.out] at KY HALL
        unfold rcuE at KY
        have hml : maxLen = 9223372036854775807 := rfl
        clear HT HX
        cases is
        · have H := Lib.hid (show R = (prZ, false) by rw [HFIN.out, if_neg (by rw [HALL.out rfl]; simp)])
          clear HALL HO2 HM2
          go_wp2_with (go_at_call 18; (with_reducible refine KY.out.mono ?_); rintro e w5 ⟨rfl, g5⟩; have GZ := Lib.hid (((G3.out.trans G0.out).trans g5).alloc (.cells #[.string id, .int .i64 ti, .int .i64 le, .string tg, .int .i64 ac, .int .i64 va] 49)); have OQ5 := Lib.hid (own_G (own_G OQ3.out (G0.out.trans g5)) ((G.refl _).alloc (.cells #[.string id, .int .i64 ti, .int .i64 le, .string tg, .int .i64 ac, .int .i64 va] 49))); clear g5; have hcq0 := own_cellAt_mid OQ5.out (j := 0) rfl; have hcq1 := own_cellAt_mid OQ5.out (j := 1) rfl; have hcq2 := own_cellAt_mid OQ5.out (j := 2) rfl; have hcq3 := own_cellAt_mid OQ5.out (j := 3) rfl; have hyq0 := own_frozen_of OQ5.out 0; have hyq1 := own_frozen_of OQ5.out 1; have hyq2 := own_frozen_of OQ5.out 2; have hyq3 := own_frozen_of OQ5.out 3)
          clear hcq0 hcq1 hcq2 hcq3 hyq0 hyq1 hyq2 hyq3
          have S0 := Lib.hid (OQ5.out.stored 0 (.slice none 0 0))
          have S1 := Lib.hid (S0.out.1.stored 1 (.int .i64 0))
          have S2 := Lib.hid (S1.out.1.stored 2 (.int .i64 0))
          have S3 := Lib.hid (S2.out.1.stored 3 (.bool false))
          have k0 := own_cellAt_mid S3.out.1 (j := 0) rfl
          have k1 := own_cellAt_mid S3.out.1 (j := 1) rfl
          have k2 := own_cellAt_mid S3.out.1 (j := 2) rfl
          have k3 := own_cellAt_mid S3.out.1 (j := 3) rfl
          exact bodyPost_ret (v := .tuple #[.agg #[.slice none 0 0, .int .i64 0, .int .i64 0, .bool false], .bool false]) (by simp [results, Tryz.results5, go_sem, k0, k1, k2, k3]) rfl (rpl_nil H.out (Gx.G GZ.out (Gx.trans (Gx.trans (Gx.trans S0.out.2 S1.out.2) S2.out.2) S3.out.2) (by intro i hi; cases hi; exact Nat.le_refl _)))
        · clear HALL
          go_wp2_with (first | (go_at_call 18; (with_reducible refine KY.out.mono ?_); rintro e w5 ⟨rfl, g5⟩; have G5 := Lib.hid g5; have OB5 := Lib.hid (own_G OB.out g5); have OC5 := Lib.hid (own_G OC.out g5); have hb5 := own_cellAt_mid (own_G OB5.out ((G.refl w5).alloc (.cells #[.string id, .int .i64 ti, .int .i64 le, .string tg, .int .i64 ac, .int .i64 va] 49))) (j := 0) rfl; clear g5) | (at_builtin; refine wpList_append_own _ rfl (.tmp 59) (.tmp 61) 23 rfl (pq + 1) 49 i0 (.agg #[.string ⟨#[]⟩, .int .i64 0, .int .i64 0, .string ⟨#[]⟩, .int .i64 0, .int .i64 0]) 6 64 Tryz.underlying23 HI.out.1 HI.out.2.1 HI.out.2.2.1 HI.out.2.2.2 rfl (by decide) _ M.length _ rfl ((OC5.out.alloc _).alloc _) ⟨w5.heap.size + 1, 0, none⟩ 1 1 (cCue ⟨id, ti, le, tg, ac, va⟩) rfl rfl (alloc2_news _ _ _ _) (cCue_one _) ?c1 ?c2 ?c3 ?_))
          case c1 => unfold maxLen; omega
          case c2 => omega
          case c3 => have := G5.out.size; simp; omega
          intro v' w6 hown hgrow _
          obtain ⟨A', c', rfl, _⟩ := own_sl hown
          have O6 := Lib.hid hown
          have GW := Lib.hid hgrow
          clear hown hgrow
          have gx := Lib.hid (((G.refl w5).alloc (.cells #[.string id, .int .i64 ti, .int .i64 le, .string tg, .int .i64 ac, .int .i64 va] 49)).alloc (.cells (cCue ⟨id, ti, le, tg, ac, va⟩).toArray 49))
          have OB6 := Lib.hid (own_Gx (own_G OB5.out gx.out) GW.out (.inr fun e => by have := (OC5.out.lt pq e.symm).1; omega))
          have hqw : w3.heap.size ≤ pq := by rw [← HPQ2.out]; exact Nat.le_refl _
          have G6 := Lib.hid (((G0.out.trans G5.out).trans gx.out).grown GW.out (fun i hi => by have := (OC5.out.lt i hi).1; omega))
          have hs6 : pq + 1 ≤ w6.heap.size := by have h1 := G5.out.size; have h2 := gx.out.size; have h3 : _ ≤ w6.heap.size := GW.out.size; exact Nat.le_trans hszr (Nat.le_trans h1 (Nat.le_trans h2 h3))
          have hb6 := own_cellAt_mid OB6.out (j := 0) rfl
          have hz6 := own_frozen_of OB6.out 0
          clear gx hb5 hcy
          go_wp2
          clear hb6 hz6
          have S0 := Lib.hid (OB6.out.stored 0 (.slice A' (M.length + 1) c'))
          have OB8 := Lib.hid S0.out.1
          have OC8 := Lib.hid (own_Gx O6.out S0.out.2 (.inr fun e => by have := (O6.out.lt _ e).1; omega))
          have G8 := Lib.hid (Gx.G G6.out S0.out.2 (by intro i hi; cases hi; exact hqw))
          have hs8 : pq + 1 ≤ (w6.setCell ⟨pq, 0, none⟩ (.slice A' (M.length + 1) c')).heap.size := by have := S0.out.2.size; omega
          go_roundw
          case rel => exact ⟨k + 1, M ++ [(⟨id, ti, le, tg, ac, va⟩ : SCue)], A', c', by omega, by go_num, by simp; omega, hs8, Lib.hid (by rw [List.length_append]; exact OB8.out), Lib.hid (by rw [List.length_append, List.flatMap_append]; simpa using OC8.out), HM2, HO2, G8⟩
          case measure => first | (simp [intOf]; done) | (simp [intOf]; omega)
      · obtain rfl : k = m := by omega
        have hkW : W.take k = W := List.take_of_length_le (by rw [Hm.out]; exact Nat.le_refl _)
        rw [hkW] at HM HO
        have hnlt : ¬ ((k : Int) < (k : Int)) := by omega
        have HFI2 := Lib.hid (show R = if vplB M ta tb = true ∧ plT M ta tb pb = s then (⟨M, ta, tb, pb⟩, true) else (prZ, false) by
          rw [HFIN.out, ← HM.out, HO.out]
          simp only [true_and])
        have hwf : ∀ x ∈ M, WfCue x := fun x hx => by
          rw [HM.out] at hx
          obtain ⟨y, -, rfl⟩ := List.mem_map.1 hx
          exact rcuR_wf y
        have OQr := Lib.hid (own_G OQ3.out G0.out)
        have hcap : M.length ≤ c := by
          obtain ⟨A1, c1, e, h⟩ := own_sl OC.out
          simp only [Value.slice.injEq] at e
          rw [e.2.2]
          exact h
        have RM := Lib.hid (rd_own (by decide) cCue_len OC.out)
        have KV := Lib.hid (iValidPlayer_any A M.length c ta tb pb M wr RM.out rfl (by omega) hcap hwf)
        have KT := Lib.hid (fun (X : World) (g : G wr X) => iPlayerText_any A M.length c ta tb pb M X (RM.out.G g) rfl (by omega) hcap hwf (HE.out.G ((G3.out.trans G0.out).trans g)).tab)
        have GR := Lib.hid (G3.out.trans G0.out)
        clear hwf hkW hcap
        have hcb0 := own_cellAt_mid OB.out (j := 0) rfl
        have hcb1 := own_cellAt_mid OB.out (j := 1) rfl
        have hcb2 := own_cellAt_mid OB.out (j := 2) rfl
        have hcb3 := own_cellAt_mid OB.out (j := 3) rfl
        cases hv : vplB M ta tb
        · have H := Lib.hid (show R = (prZ, false) by rw [HFI2.out, if_neg (by rw [hv]; simp)])
          rw [hv] at KV
          clear hv HFI2 KT
          go_wp2_with (go_at_call 19; (with_reducible refine KV.out.mono ?_); rintro e w7 ⟨rfl, g7⟩; have G7 := Lib.hid (GR.out.trans g7); have OQ7 := Lib.hid (own_G OQr.out g7); clear g7 hcb0 hcb1 hcb2 hcb3; have hcq0 := own_cellAt_mid OQ7.out (j := 0) rfl; have hcq1 := own_cellAt_mid OQ7.out (j := 1) rfl; have hcq2 := own_cellAt_mid OQ7.out (j := 2) rfl; have hcq3 := own_cellAt_mid OQ7.out (j := 3) rfl; have hyq0 := own_frozen_of OQ7.out 0; have hyq1 := own_frozen_of OQ7.out 1; have hyq2 := own_frozen_of OQ7.out 2; have hyq3 := own_frozen_of OQ7.out 3)
          clear hcq0 hcq1 hcq2 hcq3 hyq0 hyq1 hyq2 hyq3
          have S0 := Lib.hid (OQ7.out.stored 0 (.slice none 0 0))
          have S1 := Lib.hid (S0.out.1.stored 1 (.int .i64 0))
          have S2 := Lib.hid (S1.out.1.stored 2 (.int .i64 0))
          have S3 := Lib.hid (S2.out.1.stored 3 (.bool false))
          have k0 := own_cellAt_mid S3.out.1 (j := 0) rfl
          have k1 := own_cellAt_mid S3.out.1 (j := 1) rfl
          have k2 := own_cellAt_mid S3.out.1 (j := 2) rfl
          have k3 := own_cellAt_mid S3.out.1 (j := 3) rfl
          exact bodyPost_ret (v := .tuple #[.agg #[.slice none 0 0, .int .i64 0, .int .i64 0, .bool false], .bool false]) (by simp [results, Tryz.results5, go_sem, k0, k1, k2, k3]) rfl (rpl_nil H.out (Gx.G G7.out (Gx.trans (Gx.trans (Gx.trans S0.out.2 S1.out.2) S2.out.2) S3.out.2) (by intro i hi; cases hi; exact Nat.le_refl _)))
        · have HT := Lib.hid (show plTx M ta tb pb = plT M ta tb pb by unfold plTx; rw [if_pos hv])
          rw [HT.out] at KT
          rw [hv] at KV
          by_cases he : plT M ta tb pb = s
          · have H := Lib.hid (show R = (⟨M, ta, tb, pb⟩, true) by rw [HFI2.out, if_pos ⟨hv, he⟩])
            have hes : (s.toList == s.toList) = true := by simp
            rw [he] at KT
            clear hv he HFI2
            go_wp2_with (first | (go_at_call 19; (with_reducible refine KV.out.mono ?_); rintro e w7 ⟨rfl, g7⟩; have G7 := Lib.hid g7; have OQ7 := Lib.hid (own_G OQr.out g7); have OB7 := Lib.hid (own_G OB.out g7); have OC7 := Lib.hid (own_G OC.out g7); clear g7 hcb0 hcb1 hcb2 hcb3; have hcc0 := own_cellAt_mid OB7.out (j := 0) rfl; have hcc1 := own_cellAt_mid OB7.out (j := 1) rfl; have hcc2 := own_cellAt_mid OB7.out (j := 2) rfl; have hcc3 := own_cellAt_mid OB7.out (j := 3) rfl) | (go_at_call 6; (with_reducible refine (KT.out _ G7.out).mono ?_); rintro e w8 ⟨rfl, g8⟩; have G8 := Lib.hid ((GR.out.trans G7.out).trans g8); have OQ8 := Lib.hid (own_G OQ7.out g8); have OB8 := Lib.hid (own_G OB7.out g8); have OC8 := Lib.hid (own_G OC7.out g8); clear g8 hcc0 hcc1 hcc2 hcc3; have hcq0 := own_cellAt_mid OQ8.out (j := 0) rfl; have hcq1 := own_cellAt_mid OQ8.out (j := 1) rfl; have hcq2 := own_cellAt_mid OQ8.out (j := 2) rfl; have hcq3 := own_cellAt_mid OQ8.out (j := 3) rfl; have hyq0 := own_frozen_of OQ8.out 0; have hyq1 := own_frozen_of OQ8.out 1; have hyq2 := own_frozen_of OQ8.out 2; have hyq3 := own_frozen_of OQ8.out 3; have hcd0 := own_cellAt_mid OB8.out (j := 0) rfl; have hcd1 := own_cellAt_mid OB8.out (j := 1) rfl; have hcd2 := own_cellAt_mid OB8.out (j := 2) rfl; have hcd3 := own_cellAt_mid OB8.out (j := 3) rfl))
            clear hcq0 hcq1 hcq2 hcq3 hyq0 hyq1 hyq2 hyq3
            clear hcd0 hcd1 hcd2 hcd3
            have S0 := Lib.hid (OQ8.out.stored 0 (.slice A M.length c))
            have S1 := Lib.hid (S0.out.1.stored 1 (.int .i64 ta))
            have S2 := Lib.hid (S1.out.1.stored 2 (.int .i64 tb))
            have S3 := Lib.hid (S2.out.1.stored 3 (.bool pb))
            have k0 := own_cellAt_mid S3.out.1 (j := 0) rfl
            have k1 := own_cellAt_mid S3.out.1 (j := 1) rfl
            have k2 := own_cellAt_mid S3.out.1 (j := 2) rfl
            have k3 := own_cellAt_mid S3.out.1 (j := 3) rfl
            have ZZ := Lib.hid ((Gx.trans (Gx.trans (Gx.trans S0.out.2 S1.out.2) S2.out.2) S3.out.2))
            have OC9 := Lib.hid (own_Gx OC8.out ZZ.out (.inr fun e => by have := (OC8.out.lt _ e).1; omega))
            exact bodyPost_ret (v := .tuple #[.agg #[.slice A M.length c, .int .i64 ta, .int .i64 tb, .bool pb], .bool true]) (by simp [results, Tryz.results5, go_sem, k0, k1, k2, k3]) rfl (rpl_own H.out (Gx.G G8.out ZZ.out (by intro i hi; cases hi; exact Nat.le_refl _)) (OC9.out.mono (by omega)))
          · have H := Lib.hid (show R = (prZ, false) by rw [HFI2.out, if_neg (fun h => he h.2)])
            obtain ⟨t, HTT⟩ : ∃ t, Hid (plT M ta tb pb = t) := ⟨_, rfl⟩
            have hes : (t.toList == s.toList) = false := by
              simp only [beq_eq_false_iff_ne, ne_eq]
              exact fun e => he (by rw [HTT.out]; rw [ByteArray.toList_eq, ByteArray.toList_eq] at e; rw [← mkB_of t, e, mkB_of])
            rw [HTT.out] at KT
            clear hv he HFI2
            go_wp2_with (first | (go_at_call 19; (with_reducible refine KV.out.mono ?_); rintro e w7 ⟨rfl, g7⟩; have G7 := Lib.hid g7; have OQ7 := Lib.hid (own_G OQr.out g7); have OB7 := Lib.hid (own_G OB.out g7); clear g7 hcb0 hcb1 hcb2 hcb3; have hcc0 := own_cellAt_mid OB7.out (j := 0) rfl; have hcc1 := own_cellAt_mid OB7.out (j := 1) rfl; have hcc2 := own_cellAt_mid OB7.out (j := 2) rfl; have hcc3 := own_cellAt_mid OB7.out (j := 3) rfl) | (go_at_call 6; (with_reducible refine (KT.out _ G7.out).mono ?_); rintro e w8 ⟨rfl, g8⟩; have G8 := Lib.hid ((GR.out.trans G7.out).trans g8); have OQ8 := Lib.hid (own_G OQ7.out g8); clear g8 hcc0 hcc1 hcc2 hcc3; have hcq0 := own_cellAt_mid OQ8.out (j := 0) rfl; have hcq1 := own_cellAt_mid OQ8.out (j := 1) rfl; have hcq2 := own_cellAt_mid OQ8.out (j := 2) rfl; have hcq3 := own_cellAt_mid OQ8.out (j := 3) rfl; have hyq0 := own_frozen_of OQ8.out 0; have hyq1 := own_frozen_of OQ8.out 1; have hyq2 := own_frozen_of OQ8.out 2; have hyq3 := own_frozen_of OQ8.out 3))
            clear hcq0 hcq1 hcq2 hcq3 hyq0 hyq1 hyq2 hyq3
            have S0 := Lib.hid (OQ8.out.stored 0 (.slice none 0 0))
            have S1 := Lib.hid (S0.out.1.stored 1 (.int .i64 0))
            have S2 := Lib.hid (S1.out.1.stored 2 (.int .i64 0))
            have S3 := Lib.hid (S2.out.1.stored 3 (.bool false))
            have k0 := own_cellAt_mid S3.out.1 (j := 0) rfl
            have k1 := own_cellAt_mid S3.out.1 (j := 1) rfl
            have k2 := own_cellAt_mid S3.out.1 (j := 2) rfl
            have k3 := own_cellAt_mid S3.out.1 (j := 3) rfl
            exact bodyPost_ret (v := .tuple #[.agg #[.slice none 0 0, .int .i64 0, .int .i64 0, .bool false], .bool false]) (by simp [results, Tryz.results5, go_sem, k0, k1, k2, k3]) rfl (rpl_nil H.out (Gx.G G8.out (Gx.trans (Gx.trans (Gx.trans S0.out.2 S1.out.2) S2.out.2) S3.out.2) (by intro i hi; cases hi; exact Nat.le_refl _)))
end Go.Proofs.YtecakcgkibemaaaGreatDoor
