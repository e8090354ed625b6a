/-
  Walks: a channel read from a text, by both texts.
-/
import Derived.Test.YtmcddcdhppomkaaDoorChM
import Derived.Test.YtmcddcdhppomkaaDoorTxt
import Derived.Deep.RegionHeld3
import Derived.Deep.DrawnRows
namespace Go.Proofs.YtmcddcdhppomkaaDoor
open Go.RowKit

theorem sign_ok {s y : ByteArray} (h0 : s.data.toList[0]? = some 45) (hy : y = s.extract 1 s.size) : okN s = (okN y && decide (0 < valN y)) ∧ (okN s = true → valN s = -valN y) := by
  obtain ⟨l, hl⟩ : ∃ l, s.data.toList = 45 :: l := by
    cases hq : s.data.toList with
    | nil => rw [hq] at h0; cases h0
    | cons b r => rw [hq] at h0; simp only [List.getElem?_cons_zero, Option.some.injEq] at h0; exact ⟨r, by rw [h0]⟩
  have hyl : y.data.toList = l := by
    rw [hy, extract_data, hl, List.drop_succ_cons, List.drop_zero, List.take_of_length_le]
    have := congrArg List.length hl
    rw [size_data] at this
    simp at this
    omega
  have key : ∀ n : Int, Spells s n → ∃ u : Nat, 0 < u ∧ n = -(u : Int) ∧ Spells y (u : Int) := fun n hn => by
    have hm := hn.drop (a := 1) (.inl ⟨rfl, by rw [hl]; rfl⟩)
    have hneg := hm.2 rfl
    have hd := hm.1
    rw [hl, List.drop_succ_cons, List.drop_zero] at hd
    refine ⟨n.natAbs, by omega, by omega, by have := hn.1; omega, by have := hn.1; omega, ?_⟩
    unfold Lib.itoa
    rw [if_neg (by omega), Int.toNat_natCast, ← hd, ← hyl, mkB_of]
  have back : ∀ n : Int, Spells y n → 0 < n → Spells s (-n) := fun n hn hp => by
    refine ⟨by have := hn.2.1; omega, by omega, ?_⟩
    have e := hn.2.2
    have e2 : Lib.itoa n = l := by rw [← hyl, ← e, mkB_data]
    unfold Lib.itoa at e2 ⊢
    rw [if_neg (by omega)] at e2
    rw [if_pos (by omega), show (-n).natAbs = n.toNat by omega, e2, ← hl, mkB_of]
  cases hq : num s with
  | some n =>
    obtain ⟨u, hu, hnu, hsy⟩ := key n (num_some hq)
    have h1 := okN_of hq
    have h2 := okN_of (num_of hsy)
    rw [h1.1, h1.2, h2.1, h2.2]
    refine ⟨by simp; omega, fun _ => hnu⟩
  | none =>
    have h1 := okN_no hq
    rw [h1.1]
    refine ⟨?_, fun h => by cases h⟩
    cases hy2 : num y with
    | none => rw [(okN_no hy2).1]; rfl
    | some n =>
      have h2 := okN_of hy2
      rw [h2.1, h2.2]
      by_cases hp : 0 < n
      · exact absurd (back n (num_some hy2) hp) (num_not hq)
      · simp [hp]

theorem mute_no {d : ByteArray} (h : d ≠ mkB muteL) : (d.toList == [109, 117, 116, 101]) = false := by
  simp only [beq_eq_false_iff_ne, ne_eq]
  exact fun e => h (by rw [← mkB_of d, ← ByteArray.toList_eq, e]; rfl)
theorem mute_yes : ((mkB muteL).toList == [109, 117, 116, 101]) = true := by rw [ByteArray.toList_eq, mkB_data]; rfl
def rcE (w : World) (R : SChannel × Bool) (e : Ending) (w' : World) : Prop := e = .returned (.tuple #[.agg #[.string R.1.Name, .int .i64 R.1.Gain, .int .i64 R.1.Pan, .bool R.1.Muted], .bool R.2]) ∧ G w w'

theorem rd_two {w : World} {b o : Nat} {x y : ByteArray} (h0 : w.cell? ⟨b, o, none⟩ = some (.string x)) (h1 : w.cell? ⟨b, o + 1, none⟩ = some (.string y)) : Rd w (some ⟨b, o, none⟩) 1 sv [x, y] := fun _ => by
  refine ⟨b, o, rfl, fun i z j u hi hj => ?_⟩
  match j, hj with
  | 0, hj =>
    simp only [sv, List.getElem?_cons_zero, Option.some.injEq] at hj
    subst hj
    match i, hi with
    | 0, hi => simp only [List.getElem?_cons_zero, Option.some.injEq] at hi; subst hi; exact h0
    | 1, hi => simp only [List.getElem?_cons_succ, List.getElem?_cons_zero, Option.some.injEq] at hi; subst hi; exact h1
    | i + 2, hi => simp at hi
  | j + 1, hj => simp [sv] at hj
attribute [local go_sem ↓] Go.wp_at_zero Go.wp_at_succ
set_option maxRecDepth 20000 in
set_option maxHeartbeats 8000000 in
theorem iReadChannel_any (s : ByteArray) (w : World) (hs : s.size ≤ 1048576) (hE : Env w) :
    Calls Tryd.prog 16 #[.string s] w (rcE w (rcR s)) := by
  unfold rcE
  have OQ0 := Lib.hid (own_new (w := w) (base := w.heap.size) (n := 1) (cap := 1) (size := 4) (e := 35) (cur := #[.string ⟨#[]⟩, .int .i64 0, .int .i64 0, .bool false]) (Nat.le_refl _) (by decide) (by decide) rfl)
  have GA := Lib.hid ((G.refl w).alloc (.cells #[.string ⟨#[]⟩, .int .i64 0, .int .i64 0, .bool false] 35))
  have HE := Lib.hid hE
  have hpl : (wordsS s).length ≤ s.size + 1 := Nat.le_trans (List.length_filter_le _ _) (splitS_len 32 s).2
  have HPM := Lib.hid (fun (y : ByteArray) (hy : y ∈ wordsS s) => (splitS_mem (List.mem_filter.1 hy).1).1)
  have KS := Lib.hid (SplitWords_any s (by omega) _ (HE.out.G GA.out))
  have HSH := Lib.hid (fun (h : (wordsS s).length < 3) => rc_short h)
  have HEQ := Lib.hid (fun (nm g p : ByteArray) (r : List ByteArray) (h : wordsS s = nm :: g :: p :: r) => rc_words h)
  obtain ⟨R, HRR⟩ : ∃ R, Hid (rcR s = R) := ⟨_, rfl⟩
  rw [HRR.out] at HSH HEQ ⊢
  obtain ⟨P, HP⟩ : ∃ P, Hid (wordsS s = P) := ⟨_, rfl⟩
  rw [HP.out] at hpl HPM KS HSH HEQ
  clear hE
  by_cases h3 : P.length < 3
  · have H := Lib.hid (HSH.out h3)
    have h3' : (P.length : Int) < 3 := by omega
    obtain ⟨n, Hn⟩ : ∃ n, Hid (P.length = n) := ⟨_, rfl⟩
    rw [Hn.out] at h3'
    go_enter Tryd.func16, Tryd.ntmps16
    go_wp2_with (go_at_call 35; (with_reducible refine KS.out.mono ?_); rintro e w1 ⟨v1, rfl, o1, g1⟩; obtain ⟨A1, c1, rfl, hc1⟩ := own_sl o1; have G1 := Lib.hid (GA.out.trans g1); have OQ := Lib.hid (own_G OQ0.out g1); clear o1 g1; rw [Hn.out]; have hcq0 := own_cellAt_mid OQ.out (j := 0) rfl; have hyq0 := own_frozen_of OQ.out 0; have hcq1 := own_cellAt_mid OQ.out (j := 1) rfl; have hyq1 := own_frozen_of OQ.out 1; have hcq2 := own_cellAt_mid OQ.out (j := 2) rfl; have hyq2 := own_frozen_of OQ.out 2; have hcq3 := own_cellAt_mid OQ.out (j := 3) rfl; have hyq3 := own_frozen_of OQ.out 3)
    clear hcq0 hyq0 hcq1 hyq1 hcq2 hyq2 hcq3 hyq3
    have S0 := Lib.hid (OQ.out.stored 0 (.string ⟨#[]⟩))
    have S1 := Lib.hid (S0.out.1.stored 1 (.int .i64 0))
    have S2 := Lib.hid (S1.out.1.stored 2 (.int .i64 0))
    have S3 := Lib.hid (S2.out.1.stored 3 (.bool false))
    have k0 := own_cellAt_mid S3.out.1 (j := 0) rfl
    have k1 := own_cellAt_mid S3.out.1 (j := 1) rfl
    have k2 := own_cellAt_mid S3.out.1 (j := 2) rfl
    have k3 := own_cellAt_mid S3.out.1 (j := 3) rfl
    exact bodyPost_ret (v := .tuple #[.agg #[.string ⟨#[]⟩, .int .i64 0, .int .i64 0, .bool false], .bool false]) (by simp [results, Tryd.results16, go_sem, k0, k1, k2, k3]) rfl ⟨by rw [H.out] <;> rfl, Gx.G G1.out (Gx.trans (Gx.trans (Gx.trans S0.out.2 S1.out.2) S2.out.2) S3.out.2) (by intro i hi; cases hi; exact Nat.le_refl _)⟩
  obtain ⟨nm, g, p, r, rfl⟩ : ∃ nm g p r, P = nm :: g :: p :: r := by
    rcases P with _ | ⟨a, _ | ⟨b, _ | ⟨c, r⟩⟩⟩
    · simp at h3
    · simp at h3
    · simp at h3
    · exact ⟨a, b, c, r, rfl⟩
  have hn1 := HPM.out nm (by simp)
  have hn2 := HPM.out g (by simp)
  have hn3 := HPM.out p (by simp)
  have hwf : nm.size ≤ maxLen := by unfold maxLen; omega
  have HE2 := Lib.hid (HEQ.out nm g p r rfl)
  have KN := Lib.hid (fun (W : World) (gg : G w W) (b c : Nat) (h0 : W.cell? ⟨b, 1, none⟩ = some (.string g)) (h1 : W.cell? ⟨b, 2, none⟩ = some (.string p)) => readNumbers_any (some ⟨b, 1, none⟩) 2 c [g, p] W (rd_two h0 h1) rfl (by omega) (fun x hx => by
    simp only [List.mem_cons, List.mem_nil_iff, or_false] at hx
    rcases hx with rfl | rfl <;> omega) (HE.out.G gg))
  have HNR := Lib.hid (show numsR [g, p] = if okN g = true ∧ okN p = true then ([valN g, valN p], true) else ([], false) by
    unfold numsR
    simp [List.all_cons])
  have hlen : (nm :: g :: p :: r).length = r.length + 3 := rfl
  obtain ⟨k, hk⟩ : ∃ k, Hid ((nm :: g :: p :: r).length = k) := ⟨_, rfl⟩
  rw [hk.out] at hlen
  have hk3 : (3 : Int) ≤ (k : Int) := by omega
  rw [hk.out] at hpl
  clear h3 HSH HEQ
  by_cases hok : okN g = true ∧ okN p = true
  case neg =>
    have H := Lib.hid (show R = (chZ, false) by rw [HE2.out, if_neg (fun h => hok ⟨h.1, h.2.1⟩)])
    rw [if_neg hok] at HNR
    rw [HNR.out] at KN
    clear hok
    go_enter Tryd.func16, Tryd.ntmps16
    go_wp2_with (first | (go_at_call 35; (with_reducible refine KS.out.mono ?_); rintro e w1 ⟨v1, rfl, o1, g1⟩; obtain ⟨A1, c1, rfl, hc1⟩ := own_sl o1; obtain ⟨gW, rfl⟩ := own_head o1 (by simp); have G1 := Lib.hid (GA.out.trans g1); have OQ := Lib.hid (own_G OQ0.out g1); have hc13 : (3 : Int) ≤ (c1 : Int) := (by rw [hk.out] at hc1; omega); have hx0 := own_cellAt_mid o1 (j := 0) (u := .string nm) rfl; have hx1 := own_cellAt_mid o1 (j := 1) (u := .string g) rfl; have hx2 := own_cellAt_mid o1 (j := 2) (u := .string p) rfl; have HX0 := Lib.hid hx0; have HX1 := Lib.hid hx1; have HX2 := Lib.hid hx2; clear o1 g1 hx0 hx1 hx2; rw [hk.out]) | (go_at_call 36; (with_reducible refine (KN.out _ G1.out gW _ HX1.out HX2.out).mono ?_); rintro e w2 ⟨A2, c2, rfl, g2, o2⟩; have G2 := Lib.hid (G1.out.trans g2); have OQ2 := Lib.hid (own_G OQ.out g2); clear o2 g2; have hcq0 := own_cellAt_mid OQ2.out (j := 0) rfl; have hyq0 := own_frozen_of OQ2.out 0; have hcq1 := own_cellAt_mid OQ2.out (j := 1) rfl; have hyq1 := own_frozen_of OQ2.out 1; have hcq2 := own_cellAt_mid OQ2.out (j := 2) rfl; have hyq2 := own_frozen_of OQ2.out 2; have hcq3 := own_cellAt_mid OQ2.out (j := 3) rfl; have hyq3 := own_frozen_of OQ2.out 3))
    clear hcq0 hyq0 hcq1 hyq1 hcq2 hyq2 hcq3 hyq3
    have S0 := Lib.hid (OQ2.out.stored 0 (.string ⟨#[]⟩))
    have S1 := Lib.hid (S0.out.1.stored 1 (.int .i64 0))
    have S2 := Lib.hid (S1.out.1.stored 2 (.int .i64 0))
    have S3 := Lib.hid (S2.out.1.stored 3 (.bool false))
    have k0 := own_cellAt_mid S3.out.1 (j := 0) rfl
    have k1 := own_cellAt_mid S3.out.1 (j := 1) rfl
    have k2 := own_cellAt_mid S3.out.1 (j := 2) rfl
    have k3 := own_cellAt_mid S3.out.1 (j := 3) rfl
    exact bodyPost_ret (v := .tuple #[.agg #[.string ⟨#[]⟩, .int .i64 0, .int .i64 0, .bool false], .bool false]) (by simp [results, Tryd.results16, go_sem, k0, k1, k2, k3]) rfl ⟨by rw [H.out] <;> rfl, Gx.G G2.out (Gx.trans (Gx.trans (Gx.trans S0.out.2 S1.out.2) S2.out.2) S3.out.2) (by intro i hi; cases hi; exact Nat.le_refl _)⟩
  rw [if_pos hok] at HNR
  rw [HNR.out] at KN
  obtain ⟨na, HNA⟩ : ∃ x, Hid (valN g = x) := ⟨_, rfl⟩
  obtain ⟨nb, HNB⟩ : ∃ x, Hid (valN p = x) := ⟨_, rfl⟩
  rw [HNA.out, HNB.out] at KN HE2
  obtain ⟨mu, hmu⟩ : ∃ mu, Hid ((r.length == 1) = mu) := ⟨_, rfl⟩
  rw [hmu.out] at HE2
  have hkm : ((k : Int) == 4) = mu := by
    rw [← hmu.out, Bool.eq_iff_iff, beq_iff_eq, beq_iff_eq]
    omega
  have KV := Lib.hid (fun (W : World) => validChannel_any ⟨nm, na, nb, mu⟩ hwf W)
  have KT := Lib.hid (fun (W : World) (gg : G w W) => iChannelText_any ⟨nm, na, nb, mu⟩ W hwf (HE.out.G gg).tab)
  have HOK := Lib.hid hok
  have hk1 : (0 : Int) < (k : Int) := by omega
  have hk0 : 0 < k := by omega
  clear hok HNR hlen
  go_enter Tryd.func16, Tryd.ntmps16
  go_wp2_with (first | (go_at_call 35; (with_reducible refine KS.out.mono ?_); rintro e w1 ⟨v1, rfl, o1, g1⟩; obtain ⟨A1, c1, rfl, hc1⟩ := own_sl o1; obtain ⟨gW, rfl⟩ := own_head o1 (by simp); have G1 := Lib.hid (GA.out.trans g1); have OQ := Lib.hid (own_G OQ0.out g1); have hc13 : (3 : Int) ≤ (c1 : Int) := (by rw [hk.out] at hc1; omega); have hx0 := own_cellAt_mid o1 (j := 0) (u := .string nm) rfl; have hx1 := own_cellAt_mid o1 (j := 1) (u := .string g) rfl; have hx2 := own_cellAt_mid o1 (j := 2) (u := .string p) rfl; have HX0 := Lib.hid hx0; have HX1 := Lib.hid hx1; have HX2 := Lib.hid hx2; clear o1 g1 hx0 hx1 hx2; rw [hk.out]) | (go_at_call 36; (with_reducible refine (KN.out _ G1.out gW _ HX1.out HX2.out).mono ?_); rintro e w2 ⟨A2, c2, rfl, g2, o2⟩; obtain ⟨gN, rfl⟩ := own_head o2 (by simp); have G2 := Lib.hid (G1.out.trans g2); have OQ2 := Lib.hid (own_G OQ.out g2); have hy0 := g2.cell HX0.out; have hn0 := own_cellAt_mid o2 (j := 0) (u := .int .i64 na) rfl; have hn1 := own_cellAt_mid o2 (j := 1) (u := .int .i64 nb) rfl; clear o2 g2; simp only [List.length_cons, List.length_nil]))
  go_region_held3 (fun w' => w'.cell? ⟨gW, 0, none⟩ = some (.string nm) ∧ w'.cell? ⟨gN, 0, none⟩ = some (.int .i64 na) ∧ w'.cell? ⟨gN, 1, none⟩ = some (.int .i64 nb)) (first | go_keep) (fail)
  clear hy0 hn0 hn1 hk1 hk0 hk3
  obtain ⟨wx, HWX⟩ : ∃ wx, Hid ((w2.alloc (.cells #[.string nm, .int .i64 na, .int .i64 nb, .bool mu] 35)).drew = wx) := ⟨_, rfl⟩
  have GX := Lib.hid (show G w2 wx by rw [← HWX.out]; exact ((G.refl w2).alloc _).drew)
  have OX := Lib.hid (own_G OQ2.out GX.out)
  have G3 := Lib.hid (G2.out.trans GX.out)
  have CB0 := Lib.hid (show wx.cell? ⟨w2.heap.size, 0, none⟩ = some (.string nm) by rw [← HWX.out]; exact World.cell?_alloc_at _ _ _ _ rfl)
  have hcb0 := CB0.out
  have CB1 := Lib.hid (show wx.cell? ⟨w2.heap.size, 1, none⟩ = some (.int .i64 na) by rw [← HWX.out]; exact World.cell?_alloc_at _ _ _ _ rfl)
  have hcb1 := CB1.out
  have CB2 := Lib.hid (show wx.cell? ⟨w2.heap.size, 2, none⟩ = some (.int .i64 nb) by rw [← HWX.out]; exact World.cell?_alloc_at _ _ _ _ rfl)
  have hcb2 := CB2.out
  have CB3 := Lib.hid (show wx.cell? ⟨w2.heap.size, 3, none⟩ = some (.bool mu) by rw [← HWX.out]; exact World.cell?_alloc_at _ _ _ _ rfl)
  have hcb3 := CB3.out
  rw [HWX.out]
  cases hv : vcB ⟨nm, na, nb, mu⟩
  · have H := Lib.hid (show R = (chZ, false) by rw [HE2.out, if_neg (by rw [hv]; simp)])
    rw [hv] at KV
    clear hv
    go_wp2_with (go_at_call 37; (with_reducible refine (KV.out _).mono ?_); rintro e w4 ⟨rfl, g4⟩; have G4 := Lib.hid (G3.out.trans g4); have OQ4 := Lib.hid (own_G OX.out g4); clear g4 hcb0 hcb1 hcb2 hcb3; have hcq0 := own_cellAt_mid OQ4.out (j := 0) rfl; have hyq0 := own_frozen_of OQ4.out 0; have hcq1 := own_cellAt_mid OQ4.out (j := 1) rfl; have hyq1 := own_frozen_of OQ4.out 1; have hcq2 := own_cellAt_mid OQ4.out (j := 2) rfl; have hyq2 := own_frozen_of OQ4.out 2; have hcq3 := own_cellAt_mid OQ4.out (j := 3) rfl; have hyq3 := own_frozen_of OQ4.out 3)
    clear hcq0 hyq0 hcq1 hyq1 hcq2 hyq2 hcq3 hyq3
    have S0 := Lib.hid (OQ4.out.stored 0 (.string ⟨#[]⟩))
    have S1 := Lib.hid (S0.out.1.stored 1 (.int .i64 0))
    have S2 := Lib.hid (S1.out.1.stored 2 (.int .i64 0))
    have S3 := Lib.hid (S2.out.1.stored 3 (.bool false))
    have k0 := own_cellAt_mid S3.out.1 (j := 0) rfl
    have k1 := own_cellAt_mid S3.out.1 (j := 1) rfl
    have k2 := own_cellAt_mid S3.out.1 (j := 2) rfl
    have k3 := own_cellAt_mid S3.out.1 (j := 3) rfl
    exact bodyPost_ret (v := .tuple #[.agg #[.string ⟨#[]⟩, .int .i64 0, .int .i64 0, .bool false], .bool false]) (by simp [results, Tryd.results16, go_sem, k0, k1, k2, k3]) rfl ⟨by rw [H.out] <;> rfl, Gx.G G4.out (Gx.trans (Gx.trans (Gx.trans S0.out.2 S1.out.2) S2.out.2) S3.out.2) (by intro i hi; cases hi; exact Nat.le_refl _)⟩
  have HT := Lib.hid (show chTx ⟨nm, na, nb, mu⟩ = chT ⟨nm, na, nb, mu⟩ by unfold chTx; rw [if_pos hv])
  rw [HT.out] at KT
  rw [hv] at KV
  by_cases he : chT ⟨nm, na, nb, mu⟩ = s
  · have H := Lib.hid (show R = (⟨nm, na, nb, mu⟩, true) by rw [HE2.out, if_pos ⟨HOK.out.1, HOK.out.2, hv, he⟩])
    rw [he] at KT
    have hes : (s.toList == s.toList) = true := by simp
    clear hv he
    go_wp2_with (first | (go_at_call 37; (with_reducible refine (KV.out _).mono ?_); rintro e w4 ⟨rfl, g4⟩; have G4 := Lib.hid (G3.out.trans g4); have OQ4 := Lib.hid (own_G OX.out g4); have GX4 := Lib.hid g4; clear hcb0 hcb1 hcb2 hcb3; have hcb0 := g4.cell CB0.out; have hcb1 := g4.cell CB1.out; have hcb2 := g4.cell CB2.out; have hcb3 := g4.cell CB3.out; clear g4) | (go_at_call 17; (with_reducible refine (KT.out _ G4.out).mono ?_); rintro e w5 ⟨rfl, g5⟩; have G5 := Lib.hid (G4.out.trans g5); have OQ5 := Lib.hid (own_G OQ4.out g5); clear hcb0 hcb1 hcb2 hcb3; have hcb0 := g5.cell (GX4.out.cell CB0.out); have hcb1 := g5.cell (GX4.out.cell CB1.out); have hcb2 := g5.cell (GX4.out.cell CB2.out); have hcb3 := g5.cell (GX4.out.cell CB3.out); clear g5; have hcq0 := own_cellAt_mid OQ5.out (j := 0) rfl; have hyq0 := own_frozen_of OQ5.out 0; have hcq1 := own_cellAt_mid OQ5.out (j := 1) rfl; have hyq1 := own_frozen_of OQ5.out 1; have hcq2 := own_cellAt_mid OQ5.out (j := 2) rfl; have hyq2 := own_frozen_of OQ5.out 2; have hcq3 := own_cellAt_mid OQ5.out (j := 3) rfl; have hyq3 := own_frozen_of OQ5.out 3))
    clear hcb0 hcb1 hcb2 hcb3
    clear hcq0 hyq0 hcq1 hyq1 hcq2 hyq2 hcq3 hyq3
    have S0 := Lib.hid (OQ5.out.stored 0 (.string nm))
    have S1 := Lib.hid (S0.out.1.stored 1 (.int .i64 na))
    have S2 := Lib.hid (S1.out.1.stored 2 (.int .i64 nb))
    have S3 := Lib.hid (S2.out.1.stored 3 (.bool mu))
    have k0 := own_cellAt_mid S3.out.1 (j := 0) rfl
    have k1 := own_cellAt_mid S3.out.1 (j := 1) rfl
    have k2 := own_cellAt_mid S3.out.1 (j := 2) rfl
    have k3 := own_cellAt_mid S3.out.1 (j := 3) rfl
    exact bodyPost_ret (v := .tuple #[.agg #[.string nm, .int .i64 na, .int .i64 nb, .bool mu], .bool true]) (by simp [results, Tryd.results16, go_sem, k0, k1, k2, k3]) rfl ⟨by rw [H.out] <;> rfl, Gx.G G5.out (Gx.trans (Gx.trans (Gx.trans S0.out.2 S1.out.2) S2.out.2) S3.out.2) (by intro i hi; cases hi; exact Nat.le_refl _)⟩
  · have H := Lib.hid (show R = (chZ, false) by rw [HE2.out, if_neg (fun h => he h.2.2.2)])
    have hes : ((chT ⟨nm, na, nb, mu⟩).toList == s.toList) = false := by
      simp only [beq_eq_false_iff_ne, ne_eq]
      exact fun e => he (by rw [ByteArray.toList_eq, ByteArray.toList_eq] at e; rw [← mkB_of (chT ⟨nm, na, nb, mu⟩), e, mkB_of])
    obtain ⟨t, HTT⟩ : ∃ t, Hid (chT ⟨nm, na, nb, mu⟩ = t) := ⟨_, rfl⟩
    rw [HTT.out] at KT hes
    clear hv he
    go_wp2_with (first | (go_at_call 37; (with_reducible refine (KV.out _).mono ?_); rintro e w4 ⟨rfl, g4⟩; have G4 := Lib.hid (G3.out.trans g4); have OQ4 := Lib.hid (own_G OX.out g4); clear hcb0 hcb1 hcb2 hcb3; have hcb0 := g4.cell CB0.out; have hcb1 := g4.cell CB1.out; have hcb2 := g4.cell CB2.out; have hcb3 := g4.cell CB3.out; clear g4) | (go_at_call 17; (with_reducible refine (KT.out _ G4.out).mono ?_); rintro e w5 ⟨rfl, g5⟩; have G5 := Lib.hid (G4.out.trans g5); have OQ5 := Lib.hid (own_G OQ4.out g5); clear g5 hcb0 hcb1 hcb2 hcb3; have hcq0 := own_cellAt_mid OQ5.out (j := 0) rfl; have hyq0 := own_frozen_of OQ5.out 0; have hcq1 := own_cellAt_mid OQ5.out (j := 1) rfl; have hyq1 := own_frozen_of OQ5.out 1; have hcq2 := own_cellAt_mid OQ5.out (j := 2) rfl; have hyq2 := own_frozen_of OQ5.out 2; have hcq3 := own_cellAt_mid OQ5.out (j := 3) rfl; have hyq3 := own_frozen_of OQ5.out 3))
    clear hcq0 hyq0 hcq1 hyq1 hcq2 hyq2 hcq3 hyq3
    have S0 := Lib.hid (OQ5.out.stored 0 (.string ⟨#[]⟩))
    have S1 := Lib.hid (S0.out.1.stored 1 (.int .i64 0))
    have S2 := Lib.hid (S1.out.1.stored 2 (.int .i64 0))
    have S3 := Lib.hid (S2.out.1.stored 3 (.bool false))
    have k0 := own_cellAt_mid S3.out.1 (j := 0) rfl
    have k1 := own_cellAt_mid S3.out.1 (j := 1) rfl
    have k2 := own_cellAt_mid S3.out.1 (j := 2) rfl
    have k3 := own_cellAt_mid S3.out.1 (j := 3) rfl
    exact bodyPost_ret (v := .tuple #[.agg #[.string ⟨#[]⟩, .int .i64 0, .int .i64 0, .bool false], .bool false]) (by simp [results, Tryd.results16, go_sem, k0, k1, k2, k3]) rfl ⟨by rw [H.out] <;> rfl, Gx.G G5.out (Gx.trans (Gx.trans (Gx.trans S0.out.2 S1.out.2) S2.out.2) S3.out.2) (by intro i hi; cases hi; exact Nat.le_refl _)⟩
end Go.Proofs.YtmcddcdhppomkaaDoor
