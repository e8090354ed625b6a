/-
  Walks: a player read from a text, by the reference.
-/
import Derived.Test.YtecakcgkibemaaaDoorPlM
import Derived.Test.YtecakcgkibemaaaDoorRdCu2
import Derived.Deep.CutRange
import Derived.Deep.DeepCutAuto
namespace Go.Proofs.YtecakcgkibemaaaDoor
open Go.RowKit

def rplE (w : World) (R : SPr × Bool) (e : Ending) (w' : World) : Prop := ∃ A c, e = .returned (.tuple #[.agg #[.slice A R.1.L.length c, .int .i64 R.1.t, .int .i64 R.1.r, .bool R.1.p], .bool R.2]) ∧ G w w' ∧ w'.ownsRow w.heap.size 45 6 (.slice A R.1.L.length c) R.1.L.length (R.1.L.flatMap cCue)
theorem rpl_nil {w w' : World} {R : SPr × Bool} (h : R = (prZ, false)) (hg : G w w') : rplE w R (.returned (.tuple #[.agg #[.slice none 0 0, .int .i64 0, .int .i64 0, .bool false], .bool false])) w' := by
  subst h
  exact ⟨none, 0, rfl, hg, World.ownsRow_nil _ _ _ _⟩
theorem rcuR_wf (y : ByteArray) : WfCue (rcuR y).1 := by
  cases h : (rcuR y).2
  · have : rcuR y = (cuZ, false) := by
      by_cases e : ∃ x, CuOf y x
      · obtain ⟨x, hx⟩ := e
        rw [rcuR_of hx] at h
        cases h
      · exact rcuR_no (fun x hx => e ⟨x, hx⟩)
    rw [this]
    exact ⟨by show (0 : Nat) ≤ maxLen; omega, by show (0 : Nat) ≤ maxLen; omega⟩
  · have := vcuB_nm (rcuR_yes h).1
    exact ⟨by unfold maxLen; omega, by unfold maxLen; omega⟩
theorem ptail_step {P : List ByteArray} {j : Nat} {y : ByteArray} (hy : P[j]? = some y) (h1 : 1 ≤ j) : (P.take (j + 1)).drop 1 = (P.take j).drop 1 ++ [y] := by
  have hj : j < P.length := by
    rcases Nat.lt_or_ge j P.length with h | h
    · exact h
    · rw [List.getElem?_eq_none h] at hy; cases hy
  rw [List.take_add_one, hy, Option.toList_some, List.drop_append_of_le_length (by rw [List.length_take]; omega)]
theorem ptail_one (P : List ByteArray) : (P.take 1).drop 1 = [] := by
  cases P <;> simp
theorem alloc2_news (w : World) (o : Obj) (cs : List Value) (T : Nat) : ∀ j u, cs[j]? = some u → ((w.alloc o).alloc (.cells cs.toArray T)).cell? ((⟨w.heap.size + 1, 0, none⟩ : Addr).add j) = some u := fun j u h => by
  have := block_news (w.alloc o) cs T j u h
  rwa [show (w.alloc o).heap.size = w.heap.size + 1 by simp] at this
theorem rpl_own {w w' : World} {R : SPr × Bool} {M : List SCue} {ta tb : Int} {pb : Bool} {A : Option Addr} {c : Nat} (h : R = (⟨M, ta, tb, pb⟩, true)) (hg : G w w') (ho : w'.ownsRow w.heap.size 45 6 (.slice A M.length c) M.length (M.flatMap cCue)) : rplE w R (.returned (.tuple #[.agg #[.slice A M.length c, .int .i64 ta, .int .i64 tb, .bool pb], .bool true])) w' := by
  subst h
  exact ⟨A, c, rfl, hg, ho⟩
theorem cCue_one (x : SCue) : ∀ u ∈ cCue x, u.oneCell' = true := by
  intro u hu
  simp only [cCue, List.mem_cons, List.mem_nil_iff, or_false] at hu
  rcases hu with rfl | rfl | rfl | rfl | rfl | rfl <;> rfl
theorem three_of {L : List ByteArray} (h : L.length = 3) : ∃ a b c, L = [a, b, c] := by
  rcases L with _ | ⟨a, _ | ⟨b, _ | ⟨c, _ | ⟨d, r⟩⟩⟩⟩
  · simp at h
  · simp at h
  · simp at h
  · exact ⟨a, b, c, rfl⟩
  · simp at h
set_option maxRecDepth 20000 in
set_option maxHeartbeats 16000000 in
theorem sReadPlayer_any (s : ByteArray) (w : World) (hs : s.size ≤ 1048576) :
    Calls Tryd.prog 10 #[.string s] w (rplE w (rplR s)) := by
  obtain ⟨i0, hi, hz0, hz1, hz2⟩ := info_parts infoCue
  have HI := Lib.hid (And.intro hi (And.intro hz0 (And.intro hz1 hz2)))
  clear hi hz0 hz1 hz2
  have OQ0 := Lib.hid (own_new (w := w) (base := w.heap.size) (n := 1) (cap := 1) (size := 4) (e := 29) (cur := #[.slice none 0 0, .int .i64 0, .int .i64 0, .bool false]) (Nat.le_refl _) (by decide) (by decide) rfl)
  have GA := Lib.hid ((G.refl w).alloc (.cells #[.slice none 0 0, .int .i64 0, .int .i64 0, .bool false] 29))
  have KS := Lib.hid (fun (W : World) => l01Split_any s 47 47 rfl (by omega) W)
  have HPM := Lib.hid (fun (y : ByteArray) (hy : y ∈ splitS 47 s) => (splitS_mem hy).1)
  have hpl := splitS_len 47 s
  have HLEN := Lib.hid (fun (hd : ByteArray) (W : List ByteArray) (h : splitS 47 s = hd :: W) (hl : (splitS 32 hd).length ≠ 3) => pl_len h (.inl hl))
  have HEQ := Lib.hid (fun (hd n0 n1 n2 : ByteArray) (W : List ByteArray) (h : splitS 47 s = hd :: W) (h2 : splitS 32 hd = [n0, n1, n2]) => pl_eqS h h2)
  obtain ⟨R, HRR⟩ : ∃ R, Hid (rplR s = R) := ⟨_, rfl⟩
  rw [HRR.out] at HLEN HEQ ⊢
  obtain ⟨P, HP⟩ : ∃ P, Hid (splitS 47 s = P) := ⟨_, rfl⟩
  rw [HP.out] at HPM KS HLEN HEQ hpl
  obtain ⟨n, Hn⟩ : ∃ n, Hid (P.length = n) := ⟨_, rfl⟩
  obtain ⟨hd, W, hP⟩ : ∃ hd W, P = hd :: W := by
    cases P with
    | nil => simp at hpl
    | cons x r => exact ⟨x, r, rfl⟩
  have HP0 := Lib.hid (show P[0]? = some hd by rw [hP]; rfl)
  have HW := Lib.hid (show P.drop 1 = W by rw [hP]; rfl)
  have hsh := HPM.out hd (by rw [hP]; simp)
  have KS2 := Lib.hid (fun (W : World) => l01Split_any hd 32 32 rfl (by omega) W)
  have HPM2 := Lib.hid (fun (y : ByteArray) (hy : y ∈ splitS 32 hd) => (splitS_mem hy).1)
  replace HLEN := Lib.hid (HLEN.out hd W hP)
  replace HEQ := Lib.hid (fun n0 n1 n2 => HEQ.out hd n0 n1 n2 W hP)
  obtain ⟨Q, HQ⟩ : ∃ Q, Hid (splitS 32 hd = Q) := ⟨_, rfl⟩
  rw [HQ.out] at KS2 HPM2 HLEN HEQ
  rw [Hn.out] at hpl
  have hx0 : 0 < n := by omega
  have hX0 : (0 : Int) < (n : Int) := by omega
  clear hP
  have hsz0 : (w.alloc (.cells #[.slice none 0 0, .int .i64 0, .int .i64 0, .bool false] 29)).heap.size = w.heap.size + 1 := by simp
  by_cases l2 : Q.length = 3
  case neg =>
    have H := Lib.hid (HLEN.out l2)
    obtain ⟨k, Hk⟩ : ∃ k, Hid (Q.length = k) := ⟨_, rfl⟩
    rw [Hk.out] at l2
    have hd3 : ((k : Int) == 3) = false := by rw [beq_eq_false_iff_ne]; omega
    have hd4 : ((k : Int) != 3) = true := by simp [bne, hd3]
    have hd5 : ¬ ((k : Int) = 3) := by omega
    clear l2
    go_enter Tryd.func10, Tryd.ntmps10
    go_wp2_with (first | (go_at_call 22; (with_reducible refine (KS.out _).mono ?_); rintro e w1 ⟨v1, rfl, o1, g1⟩; obtain ⟨A1, c1, rfl, hc1⟩ := own_sl o1; obtain ⟨gW, rfl⟩ := own_head o1 (by rw [Hn.out]; omega); have G1 := Lib.hid (GA.out.trans g1); have OQ1 := Lib.hid (own_G OQ0.out g1); have h0 := own_cellAt_mid o1 (j := 0) (u := .string hd) (by rw [flat_svc, List.getElem?_map, HP0.out]; rfl); clear o1 g1 hc1; rw [Hn.out]) | (go_at_call 22; (with_reducible refine (KS2.out _).mono ?_); rintro e w2 ⟨v2, rfl, o2, g2⟩; obtain ⟨A2, c2, rfl, hc2⟩ := own_sl o2; have G2 := Lib.hid (G1.out.trans g2); have OQ2 := Lib.hid (own_G OQ1.out g2); clear o2 g2 hc2 h0; rw [Hk.out]; have hcq0 := own_cellAt_mid OQ2.out (j := 0) rfl; have hcq1 := own_cellAt_mid OQ2.out (j := 1) rfl; have hcq2 := own_cellAt_mid OQ2.out (j := 2) rfl; have hcq3 := own_cellAt_mid OQ2.out (j := 3) rfl; have hyq0 := own_frozen_of OQ2.out 0; have hyq1 := own_frozen_of OQ2.out 1; have hyq2 := own_frozen_of OQ2.out 2; have hyq3 := own_frozen_of OQ2.out 3))
    clear hcq0 hcq1 hcq2 hcq3 hyq0 hyq1 hyq2 hyq3
    have S0 := Lib.hid (OQ2.out.stored 0 (.slice none 0 0))
    have S1 := Lib.hid (S0.out.1.stored 1 (.int .i64 0))
    have S2 := Lib.hid (S1.out.1.stored 2 (.int .i64 0))
    have S3 := Lib.hid (S2.out.1.stored 3 (.bool false))
    have k0 := own_cellAt_mid S3.out.1 (j := 0) rfl
    have k1 := own_cellAt_mid S3.out.1 (j := 1) rfl
    have k2 := own_cellAt_mid S3.out.1 (j := 2) rfl
    have k3 := own_cellAt_mid S3.out.1 (j := 3) rfl
    exact bodyPost_ret (v := .tuple #[.agg #[.slice none 0 0, .int .i64 0, .int .i64 0, .bool false], .bool false]) (by simp [results, Tryd.results10, go_sem, k0, k1, k2, k3]) rfl (rpl_nil H.out (Gx.G G2.out (Gx.trans (Gx.trans (Gx.trans S0.out.2 S1.out.2) S2.out.2) S3.out.2) (by intro i hi; cases hi; exact Nat.le_refl _)))
  obtain ⟨n0, n1, n2, rfl⟩ := three_of l2
  have HE := Lib.hid (HEQ.out n0 n1 n2 rfl)
  clear HEQ HLEN l2
  have hs1 := HPM2.out n1 (by simp)
  have hs2 := HPM2.out n2 (by simp)
  have K1 := Lib.hid (fun (W : World) => l01Number_any n1 (by omega) W)
  have K2 := Lib.hid (fun (W : World) => l01Number_any n2 (by omega) W)
  have KC := Lib.hid (fun (y : ByteArray) (hy : y ∈ P) (W : World) => l13Read_any y (by have := HPM.out y hy; omega) W)
  clear hs1 hs2 hsh HPM2
  obtain ⟨ta, HTA⟩ : ∃ x, Hid (valN n1 = x) := ⟨_, rfl⟩
  obtain ⟨tb, HTB⟩ : ∃ x, Hid (valN n2 = x) := ⟨_, rfl⟩
  obtain ⟨b1, HB1⟩ : ∃ x, Hid (okN n1 = x) := ⟨_, rfl⟩
  obtain ⟨b2, HB2⟩ : ∃ x, Hid (okN n2 = x) := ⟨_, rfl⟩
  rw [HTA.out, HB1.out] at K1
  rw [HTB.out, HB2.out] at K2
  rw [HTA.out, HTB.out, HB1.out, HB2.out] at HE
  obtain ⟨pb, HPB⟩ : ∃ x, Hid (decide (n0 = mkB wPlay) = x) := ⟨_, rfl⟩
  obtain ⟨qb, HQB⟩ : ∃ x, Hid (decide (n0 = mkB wPause) = x) := ⟨_, rfl⟩
  obtain ⟨bad, HBAD⟩ : ∃ x, Hid ((!pb && !qb) = x) := ⟨_, rfl⟩
  obtain ⟨okb, HOK⟩ : ∃ x, Hid ((b1 && b2) = x) := ⟨_, rfl⟩
  have hq0 : (n0.toList == [112, 108, 97, 121]) = pb := by
    rw [← HPB.out]
    by_cases h : n0 = mkB wPlay
    · rw [decide_eq_true h, h]; exact str_yes wPlay
    · rw [decide_eq_false h]; exact str_no (l := wPlay) h
  have hq1 : (n0.toList == [112, 97, 117, 115, 101]) = qb := by
    rw [← HQB.out]
    by_cases h : n0 = mkB wPause
    · rw [decide_eq_true h, h]; exact str_yes wPause
    · rw [decide_eq_false h]; exact str_no (l := wPause) h
  have HNO := Lib.hid (show bad = true → R = (prZ, false) from fun hb => by
    rw [HE.out, if_neg]
    rintro ⟨k1, -⟩
    rw [← HBAD.out, ← HPB.out, ← HQB.out] at hb
    simp only [Bool.and_eq_true, Bool.not_eq_true', decide_eq_false_iff_not] at hb
    rcases k1 with e | e
    · exact hb.1 e
    · exact hb.2 e)
  have HFIN := Lib.hid (show bad = false → ∀ (M : List SCue) (ob : Bool), M = ((P.take n).drop 1).map (fun y => (rcuR y).1) → (okb && ((P.take n).drop 1).all (fun y => (rcuR y).2)) = ob → R = if ob = true ∧ vplB M ta tb = true then (⟨M, ta, tb, pb⟩, true) else (prZ, false) from fun hb M ob hM ho => by
    rw [List.take_of_length_le (by rw [Hn.out]; omega), HW.out] at hM ho
    subst hM
    rw [← HBAD.out, ← HPB.out, ← HQB.out] at hb
    have hor : n0 = mkB wPlay ∨ n0 = mkB wPause := by
      by_cases h : n0 = mkB wPlay
      · exact .inl h
      · refine .inr ?_
        rw [decide_eq_false h] at hb
        by_cases h2 : n0 = mkB wPause
        · exact h2
        · rw [decide_eq_false h2] at hb
          cases hb
    rw [HE.out, HPB.out]
    by_cases c : ob = true ∧ vplB (W.map fun y => (rcuR y).1) ta tb = true
    · rw [if_pos c]
      obtain ⟨c1, c2⟩ := c
      rw [c1, ← HOK.out] at ho
      simp only [Bool.and_eq_true] at ho
      exact if_pos ⟨hor, ho.1.1, ho.1.2, ho.2, c2⟩
    · rw [if_neg c]
      refine if_neg fun ⟨_, c1, c2, c3, c4⟩ => c ⟨?_, c4⟩
      rw [← ho, ← HOK.out, c1, c2, c3]
      rfl)
  have HPB2 := Lib.hid HPB.out
  clear HE HPB HQB HPB2
  go_enter Tryd.func10, Tryd.ntmps10
  go_upto_region 3 with (first | (go_at_call 22; (with_reducible refine (KS.out _).mono ?_); rintro e w1 ⟨v1, rfl, o1, g1⟩; obtain ⟨A1, c1, rfl, hc1⟩ := own_sl o1; obtain ⟨gW, rfl⟩ := own_head o1 (by rw [Hn.out]; omega); have hgW := (o1.lt gW rfl); have G1 := Lib.hid (GA.out.trans g1); have OQ1 := Lib.hid (own_G OQ0.out g1); have OP1 := Lib.hid o1; rw [Hn.out] at OP1; have h0 := own_cellAt_mid o1 (j := 0) (u := .string hd) (by rw [flat_svc, List.getElem?_map, HP0.out]; rfl); clear o1 g1 hc1; rw [Hn.out]) | (go_at_call 22; (with_reducible refine (KS2.out _).mono ?_); rintro e w2 ⟨v2, rfl, o2, g2⟩; obtain ⟨A2, c2, rfl, hc2⟩ := own_sl o2; obtain ⟨gQ, rfl⟩ := own_head o2 (by simp); have G2 := Lib.hid (G1.out.trans g2); have OQ2 := Lib.hid (own_G OQ1.out g2); have OP2 := Lib.hid (own_G OP1.out g2); have hx0 := own_cellAt_mid o2 (j := 0) (u := .string n0) rfl; have hx1 := own_cellAt_mid o2 (j := 1) (u := .string n1) rfl; have HX0 := Lib.hid hx0; have HX2 := Lib.hid (own_cellAt_mid o2 (j := 2) (u := .string n2) rfl); clear o2 g2 hc2 h0; simp only [List.length_cons, List.length_nil]))
  have OP := Lib.hid OP2.out
  rw [hsz0] at hgW OP
  clear OP2 OP1 OQ1 GA KS KS2 OQ0 hsz0 HP0 G1
  go_cut [35] (fun s35 wx => s35 = .bool bad ∧ w2 = wx)
  case first =>
    cases pb <;> cases qb
    all_goals
      go_wp2
      go_meet
    all_goals exact ⟨congrArg Value.bool HBAD.out, rfl⟩
  case rest =>
    obtain ⟨rfl, rfl⟩ := hcut
    cases bad
    case true =>
      have H := Lib.hid (HNO.out rfl)
      clear HFIN HNO hx0 hx1
      have hcq0 := own_cellAt_mid OQ2.out (j := 0) rfl; have hcq1 := own_cellAt_mid OQ2.out (j := 1) rfl; have hcq2 := own_cellAt_mid OQ2.out (j := 2) rfl; have hcq3 := own_cellAt_mid OQ2.out (j := 3) rfl; have hyq0 := own_frozen_of OQ2.out 0; have hyq1 := own_frozen_of OQ2.out 1; have hyq2 := own_frozen_of OQ2.out 2; have hyq3 := own_frozen_of OQ2.out 3
      go_wp2
      clear hcq0 hcq1 hcq2 hcq3 hyq0 hyq1 hyq2 hyq3
      have S0 := Lib.hid (OQ2.out.stored 0 (.slice none 0 0))
      have S1 := Lib.hid (S0.out.1.stored 1 (.int .i64 0))
      have S2 := Lib.hid (S1.out.1.stored 2 (.int .i64 0))
      have S3 := Lib.hid (S2.out.1.stored 3 (.bool false))
      have k0 := own_cellAt_mid S3.out.1 (j := 0) rfl
      have k1 := own_cellAt_mid S3.out.1 (j := 1) rfl
      have k2 := own_cellAt_mid S3.out.1 (j := 2) rfl
      have k3 := own_cellAt_mid S3.out.1 (j := 3) rfl
      exact bodyPost_ret (v := .tuple #[.agg #[.slice none 0 0, .int .i64 0, .int .i64 0, .bool false], .bool false]) (by simp [results, Tryd.results10, go_sem, k0, k1, k2, k3]) rfl (rpl_nil H.out (Gx.G G2.out (Gx.trans (Gx.trans (Gx.trans S0.out.2 S1.out.2) S2.out.2) S3.out.2) (by intro i hi; cases hi; exact Nat.le_refl _)))
    case false =>
      replace HFIN := Lib.hid (HFIN.out rfl)
      clear HNO hq1
      go_upto_region 8 with (first | (go_at_call 23; (with_reducible refine (K1.out _).mono ?_); rintro e w3 ⟨rfl, g3⟩; have G3 := Lib.hid (G2.out.trans g3); have OQ3 := Lib.hid (own_G OQ2.out g3); have OP3 := Lib.hid (own_G OP.out g3); have hy2 := g3.cell HX2.out; have HY0 := Lib.hid (g3.cell HX0.out); clear g3 hx0 hx1) | (go_at_call 23; (with_reducible refine (K2.out _).mono ?_); rintro e w4 ⟨rfl, g4⟩; have G4 := Lib.hid (G3.out.trans g4); have OQ4 := Lib.hid (own_G OQ3.out g4); have OP4 := Lib.hid (own_G OP3.out g4); have hy0 := g4.cell HY0.out; have hs4 : w.heap.size < w4.heap.size := (OQ4.out.lt w.heap.size rfl).2; clear g4 hy2))
      clear hy0 hq0 HX0 HX2 HY0 OP OQ2 G2 K1 K2 OP3 OQ3 G3
      go_cut [11] (fun s11 wx => s11 = .bool okb ∧ w4.alloc (.cells #[.slice none 0 0, .int .i64 ta, .int .i64 tb, .bool pb] 29) = wx)
      case first =>
        cases b1
        all_goals
          go_wp2
          go_meet
        all_goals exact ⟨congrArg Value.bool HOK.out, rfl⟩
      case rest =>
        obtain ⟨rfl, rfl⟩ := hcut
        have OB := Lib.hid (own_new (w := w4) (base := w4.heap.size) (n := 1) (cap := 1) (size := 4) (e := 29) (cur := #[.slice none 0 0, .int .i64 ta, .int .i64 tb, .bool pb]) (Nat.le_refl _) (by decide) (by decide) rfl)
        have GB := Lib.hid ((G.refl w4).alloc (.cells #[.slice none 0 0, .int .i64 ta, .int .i64 tb, .bool pb] 29))
        have hpsz : (w4.alloc (.cells #[.slice none 0 0, .int .i64 ta, .int .i64 tb, .bool pb] 29)).heap.size = w4.heap.size + 1 := by simp
        have OC0 := Lib.hid (World.ownsRow_nil (w4.alloc (.cells #[.slice none 0 0, .int .i64 ta, .int .i64 tb, .bool pb] 29)) (w4.heap.size + 1) 45 6)
        go_wp2
        go_loopw [11, 12] (fun okv i wr => ∃ (k : Nat) (ob : Bool) (M : List SCue) (A : Option Addr) (c : Nat), 1 ≤ k ∧ k ≤ n ∧ i = .int .i64 (k : Int) ∧ okv = .bool ob ∧ M.length ≤ k ∧ w4.heap.size + 1 ≤ wr.heap.size ∧ Hid (wr.ownsRow w4.heap.size 29 4 (.slice (some ⟨w4.heap.size, 0, none⟩) 1 1) 1 [.slice A M.length c, .int .i64 ta, .int .i64 tb, .bool pb]) ∧ Hid (wr.ownsRow (w4.heap.size + 1) 45 6 (.slice A M.length c) M.length (M.flatMap cCue)) ∧ Hid (M = ((P.take k).drop 1).map (fun y => (rcuR y).1)) ∧ Hid ((okb && ((P.take k).drop 1).all (fun y => (rcuR y).2)) = ob) ∧ Hid (G w4 wr)) (fun _ i _ => n - (intOf i).toNat)
        case atStart => exact ⟨1, okb, [], none, 0, Nat.le_refl _, by omega, rfl, rfl, by simp, by omega, OB, OC0, Lib.hid (by rw [ptail_one]; rfl), Lib.hid (by rw [ptail_one]; simp), GB⟩
        case round =>
          clear OB GB OC0 hpsz
          obtain ⟨k, ob, M, A, c, hk1, hk, rfl, rfl, hM, hszr, OB, OC, HM, HO, G0⟩ := hrel
          have hk0 : (0 : Int) ≤ (k : Int) := by omega
          by_cases hlt : k < n
          · have hlt2 : (k : Int) < (n : Int) := by omega
            obtain ⟨y, hy⟩ : ∃ y, P[k]? = some y := ⟨_, List.getElem?_eq_getElem (by rw [Hn.out]; exact hlt)⟩
            have hcy := own_cellAt_mid (own_G OP4.out G0.out) (j := k) (u := .string y) (by rw [flat_svc, List.getElem?_map, hy]; rfl)
            have KY := Lib.hid (KC.out y (List.mem_of_getElem? hy) wr)
            have HT := Lib.hid (ptail_step hy hk1)
            clear hy
            obtain ⟨id, ti, le, tg, ac, va, is, HX⟩ : ∃ id ti le tg ac va is, Hid (rcuR y = (⟨id, ti, le, tg, ac, va⟩, is)) := ⟨_, _, _, _, _, _, _, Lib.hid rfl⟩
            have HM2 := Lib.hid (show M ++ [(⟨id, ti, le, tg, ac, va⟩ : SCue)] = ((P.take (k + 1)).drop 1).map (fun y => (rcuR y).1) by rw [HT.out, List.map_append, ← HM.out]; simp only [List.map_cons, List.map_nil, HX.out])
            have HO2 := Lib.hid (show (okb && ((P.take (k + 1)).drop 1).all (fun y => (rcuR y).2)) = (ob && is) by rw [HT.out, List.all_append, ← Bool.and_assoc, HO.out]; simp only [List.all_cons, List.all_nil, HX.out, Bool.and_true])
            rw [HX.out] at KY
            unfold rcuE at KY
            have hml : maxLen = 9223372036854775807 := rfl
            clear HT HX
            cases ob
            · replace HO2 := Lib.hid (show (okb && ((P.take (k + 1)).drop 1).all (fun y => (rcuR y).2)) = false by rw [HO2.out]; first | rfl | simp)
              go_wp2_with (first | (go_at_call 24; (with_reducible refine KY.out.mono ?_); rintro e w5 ⟨rfl, g5⟩; have G5 := Lib.hid g5; have OB5 := Lib.hid (own_G OB.out g5); have OC5 := Lib.hid (own_G OC.out g5); have hb5 := own_cellAt_mid (own_G OB5.out ((G.refl w5).alloc (.cells #[.string id, .int .i64 ti, .int .i64 le, .string tg, .int .i64 ac, .int .i64 va] 45))) (j := 0) rfl; clear g5) | (at_builtin; refine wpList_append_own _ rfl (.tmp 81) (.tmp 83) 27 rfl (w4.heap.size + 1) 45 i0 (.agg #[.string ⟨#[]⟩, .int .i64 0, .int .i64 0, .string ⟨#[]⟩, .int .i64 0, .int .i64 0]) 6 64 Tryd.underlying27 HI.out.1 HI.out.2.1 HI.out.2.2.1 HI.out.2.2.2 rfl (by decide) _ M.length _ rfl ((OC5.out.alloc _).alloc _) ⟨w5.heap.size + 1, 0, none⟩ 1 1 (cCue ⟨id, ti, le, tg, ac, va⟩) rfl rfl (alloc2_news _ _ _ _) (cCue_one _) ?c1 ?c2 ?c3 ?_))
              case c1 => unfold maxLen; omega
              case c2 => omega
              case c3 => have := G5.out.size; simp; omega
              intro v' w6 hown hgrow _
              obtain ⟨A', c', rfl, _⟩ := own_sl hown
              have O6 := Lib.hid hown
              have GW := Lib.hid hgrow
              clear hown hgrow
              have gx := Lib.hid (((G.refl w5).alloc (.cells #[.string id, .int .i64 ti, .int .i64 le, .string tg, .int .i64 ac, .int .i64 va] 45)).alloc (.cells (cCue ⟨id, ti, le, tg, ac, va⟩).toArray 45))
              have OB6 := Lib.hid (own_Gx (own_G OB5.out gx.out) GW.out (.inr fun e => by have := (OC5.out.lt w4.heap.size e.symm).1; omega))
              have G6 := Lib.hid (((G0.out.trans G5.out).trans gx.out).grown GW.out (fun i hi => by have := (OC5.out.lt i hi).1; omega))
              have hs6 : w4.heap.size + 1 ≤ w6.heap.size := by have h1 := G5.out.size; have h2 := gx.out.size; have h3 : _ ≤ w6.heap.size := GW.out.size; exact Nat.le_trans hszr (Nat.le_trans h1 (Nat.le_trans h2 h3))
              have hb6 := own_cellAt_mid OB6.out (j := 0) rfl
              have hz6 := own_frozen_of OB6.out 0
              clear gx hb5 hcy
              go_wp2
              clear hb6 hz6
              have S0 := Lib.hid (OB6.out.stored 0 (.slice A' (M.length + 1) c'))
              have OB8 := Lib.hid S0.out.1
              have OC8 := Lib.hid (own_Gx O6.out S0.out.2 (.inr fun e => by have := (O6.out.lt _ e).1; omega))
              have G8 := Lib.hid (Gx.G G6.out S0.out.2 (by intro i hi; cases hi; exact Nat.le_refl _))
              have hs8 : w4.heap.size + 1 ≤ (w6.setCell ⟨w4.heap.size, 0, none⟩ (.slice A' (M.length + 1) c')).heap.size := by have := S0.out.2.size; omega
              go_roundw
              case rel => exact ⟨k + 1, false, M ++ [(⟨id, ti, le, tg, ac, va⟩ : SCue)], A', c', by omega, by omega, by go_num, rfl, by simp; omega, hs8, Lib.hid (by rw [List.length_append]; exact OB8.out), Lib.hid (by rw [List.length_append, List.flatMap_append]; simpa using OC8.out), HM2, HO2, G8⟩
              case measure => first | (simp [intOf]; done) | (simp [intOf]; omega)
            · replace HO2 := Lib.hid (show (okb && ((P.take (k + 1)).drop 1).all (fun y => (rcuR y).2)) = is by rw [HO2.out]; first | rfl | simp)
              go_wp2_with (first | (go_at_call 24; (with_reducible refine KY.out.mono ?_); rintro e w5 ⟨rfl, g5⟩; have G5 := Lib.hid g5; have OB5 := Lib.hid (own_G OB.out g5); have OC5 := Lib.hid (own_G OC.out g5); have hb5 := own_cellAt_mid (own_G OB5.out ((G.refl w5).alloc (.cells #[.string id, .int .i64 ti, .int .i64 le, .string tg, .int .i64 ac, .int .i64 va] 45))) (j := 0) rfl; clear g5) | (at_builtin; refine wpList_append_own _ rfl (.tmp 81) (.tmp 83) 27 rfl (w4.heap.size + 1) 45 i0 (.agg #[.string ⟨#[]⟩, .int .i64 0, .int .i64 0, .string ⟨#[]⟩, .int .i64 0, .int .i64 0]) 6 64 Tryd.underlying27 HI.out.1 HI.out.2.1 HI.out.2.2.1 HI.out.2.2.2 rfl (by decide) _ M.length _ rfl ((OC5.out.alloc _).alloc _) ⟨w5.heap.size + 1, 0, none⟩ 1 1 (cCue ⟨id, ti, le, tg, ac, va⟩) rfl rfl (alloc2_news _ _ _ _) (cCue_one _) ?c1 ?c2 ?c3 ?_))
              case c1 => unfold maxLen; omega
              case c2 => omega
              case c3 => have := G5.out.size; simp; omega
              intro v' w6 hown hgrow _
              obtain ⟨A', c', rfl, _⟩ := own_sl hown
              have O6 := Lib.hid hown
              have GW := Lib.hid hgrow
              clear hown hgrow
              have gx := Lib.hid (((G.refl w5).alloc (.cells #[.string id, .int .i64 ti, .int .i64 le, .string tg, .int .i64 ac, .int .i64 va] 45)).alloc (.cells (cCue ⟨id, ti, le, tg, ac, va⟩).toArray 45))
              have OB6 := Lib.hid (own_Gx (own_G OB5.out gx.out) GW.out (.inr fun e => by have := (OC5.out.lt w4.heap.size e.symm).1; omega))
              have G6 := Lib.hid (((G0.out.trans G5.out).trans gx.out).grown GW.out (fun i hi => by have := (OC5.out.lt i hi).1; omega))
              have hs6 : w4.heap.size + 1 ≤ w6.heap.size := by have h1 := G5.out.size; have h2 := gx.out.size; have h3 : _ ≤ w6.heap.size := GW.out.size; exact Nat.le_trans hszr (Nat.le_trans h1 (Nat.le_trans h2 h3))
              have hb6 := own_cellAt_mid OB6.out (j := 0) rfl
              have hz6 := own_frozen_of OB6.out 0
              clear gx hb5 hcy
              go_wp2
              clear hb6 hz6
              have S0 := Lib.hid (OB6.out.stored 0 (.slice A' (M.length + 1) c'))
              have OB8 := Lib.hid S0.out.1
              have OC8 := Lib.hid (own_Gx O6.out S0.out.2 (.inr fun e => by have := (O6.out.lt _ e).1; omega))
              have G8 := Lib.hid (Gx.G G6.out S0.out.2 (by intro i hi; cases hi; exact Nat.le_refl _))
              have hs8 : w4.heap.size + 1 ≤ (w6.setCell ⟨w4.heap.size, 0, none⟩ (.slice A' (M.length + 1) c')).heap.size := by have := S0.out.2.size; omega
              go_roundw
              case rel => exact ⟨k + 1, is, M ++ [(⟨id, ti, le, tg, ac, va⟩ : SCue)], A', c', by omega, by omega, by go_num, rfl, by simp; omega, hs8, Lib.hid (by rw [List.length_append]; exact OB8.out), Lib.hid (by rw [List.length_append, List.flatMap_append]; simpa using OC8.out), HM2, HO2, G8⟩
              case measure => first | (simp [intOf]; done) | (simp [intOf]; omega)
          · obtain rfl : k = n := by omega
            have HF := Lib.hid (HFIN.out M ob HM.out HO.out)
            have OQr := Lib.hid (own_G OQ4.out G0.out)
            have hnlt : ¬ ((k : Int) < (k : Int)) := by omega
            cases ob
            · have H := Lib.hid (show R = (prZ, false) by rw [HF.out, if_neg (by simp)])
              have hcq0 := own_cellAt_mid OQr.out (j := 0) rfl; have hcq1 := own_cellAt_mid OQr.out (j := 1) rfl; have hcq2 := own_cellAt_mid OQr.out (j := 2) rfl; have hcq3 := own_cellAt_mid OQr.out (j := 3) rfl; have hyq0 := own_frozen_of OQr.out 0; have hyq1 := own_frozen_of OQr.out 1; have hyq2 := own_frozen_of OQr.out 2; have hyq3 := own_frozen_of OQr.out 3
              go_wp2
              clear hcq0 hcq1 hcq2 hcq3 hyq0 hyq1 hyq2 hyq3
              have S0 := Lib.hid (OQr.out.stored 0 (.slice none 0 0))
              have S1 := Lib.hid (S0.out.1.stored 1 (.int .i64 0))
              have S2 := Lib.hid (S1.out.1.stored 2 (.int .i64 0))
              have S3 := Lib.hid (S2.out.1.stored 3 (.bool false))
              have k0 := own_cellAt_mid S3.out.1 (j := 0) rfl
              have k1 := own_cellAt_mid S3.out.1 (j := 1) rfl
              have k2 := own_cellAt_mid S3.out.1 (j := 2) rfl
              have k3 := own_cellAt_mid S3.out.1 (j := 3) rfl
              exact bodyPost_ret (v := .tuple #[.agg #[.slice none 0 0, .int .i64 0, .int .i64 0, .bool false], .bool false]) (by simp [results, Tryd.results10, go_sem, k0, k1, k2, k3]) rfl (rpl_nil H.out (Gx.G (G4.out.trans G0.out) (Gx.trans (Gx.trans (Gx.trans S0.out.2 S1.out.2) S2.out.2) S3.out.2) (by intro i hi; cases hi; exact Nat.le_refl _)))
            · have hwf : ∀ x ∈ M, WfCue x := fun x hx => by
                rw [HM.out] at hx
                obtain ⟨y, -, rfl⟩ := List.mem_map.1 hx
                exact rcuR_wf y
              have KV := Lib.hid (l17Ok_any w4.heap.size A M.length c ta tb M wr (rd_own (by decide) cCue_len OC.out) rfl (by omega) hwf (own_cellAt_mid OB.out (j := 0) rfl) (own_cellAt_mid OB.out (j := 1) rfl) (own_cellAt_mid OB.out (j := 2) rfl))
              clear hwf
              cases hv : vplB M ta tb
              · have H := Lib.hid (show R = (prZ, false) by rw [HF.out, if_neg (by rw [hv]; simp)])
                rw [hv] at KV
                clear hv HF
                go_wp2_with (go_at_call 15; (with_reducible refine KV.out.mono ?_); rintro e w7 ⟨rfl, g7⟩; have G7 := Lib.hid ((G4.out.trans G0.out).trans g7); have OQ7 := Lib.hid (own_G OQr.out g7); clear g7; have hcq0 := own_cellAt_mid OQ7.out (j := 0) rfl; have hcq1 := own_cellAt_mid OQ7.out (j := 1) rfl; have hcq2 := own_cellAt_mid OQ7.out (j := 2) rfl; have hcq3 := own_cellAt_mid OQ7.out (j := 3) rfl; have hyq0 := own_frozen_of OQ7.out 0; have hyq1 := own_frozen_of OQ7.out 1; have hyq2 := own_frozen_of OQ7.out 2; have hyq3 := own_frozen_of OQ7.out 3)
                clear hcq0 hcq1 hcq2 hcq3 hyq0 hyq1 hyq2 hyq3
                have S0 := Lib.hid (OQ7.out.stored 0 (.slice none 0 0))
                have S1 := Lib.hid (S0.out.1.stored 1 (.int .i64 0))
                have S2 := Lib.hid (S1.out.1.stored 2 (.int .i64 0))
                have S3 := Lib.hid (S2.out.1.stored 3 (.bool false))
                have k0 := own_cellAt_mid S3.out.1 (j := 0) rfl
                have k1 := own_cellAt_mid S3.out.1 (j := 1) rfl
                have k2 := own_cellAt_mid S3.out.1 (j := 2) rfl
                have k3 := own_cellAt_mid S3.out.1 (j := 3) rfl
                exact bodyPost_ret (v := .tuple #[.agg #[.slice none 0 0, .int .i64 0, .int .i64 0, .bool false], .bool false]) (by simp [results, Tryd.results10, go_sem, k0, k1, k2, k3]) rfl (rpl_nil H.out (Gx.G G7.out (Gx.trans (Gx.trans (Gx.trans S0.out.2 S1.out.2) S2.out.2) S3.out.2) (by intro i hi; cases hi; exact Nat.le_refl _)))
              · have H := Lib.hid (show R = (⟨M, ta, tb, pb⟩, true) by rw [HF.out, if_pos ⟨rfl, hv⟩])
                rw [hv] at KV
                clear hv HF
                go_wp2_with (go_at_call 15; (with_reducible refine KV.out.mono ?_); rintro e w7 ⟨rfl, g7⟩; have G7 := Lib.hid ((G4.out.trans G0.out).trans g7); have OQ7 := Lib.hid (own_G OQr.out g7); have OB7 := Lib.hid (own_G OB.out g7); have OC7 := Lib.hid (own_G OC.out g7); clear g7; have hcq0 := own_cellAt_mid OQ7.out (j := 0) rfl; have hcq1 := own_cellAt_mid OQ7.out (j := 1) rfl; have hcq2 := own_cellAt_mid OQ7.out (j := 2) rfl; have hcq3 := own_cellAt_mid OQ7.out (j := 3) rfl; have hyq0 := own_frozen_of OQ7.out 0; have hyq1 := own_frozen_of OQ7.out 1; have hyq2 := own_frozen_of OQ7.out 2; have hyq3 := own_frozen_of OQ7.out 3; have hcb0 := own_cellAt_mid OB7.out (j := 0) rfl; have hcb1 := own_cellAt_mid OB7.out (j := 1) rfl; have hcb2 := own_cellAt_mid OB7.out (j := 2) rfl; have hcb3 := own_cellAt_mid OB7.out (j := 3) rfl)
                clear hcq0 hcq1 hcq2 hcq3 hyq0 hyq1 hyq2 hyq3
                clear hcb0 hcb1 hcb2 hcb3
                have S0 := Lib.hid (OQ7.out.stored 0 (.slice A M.length c))
                have S1 := Lib.hid (S0.out.1.stored 1 (.int .i64 ta))
                have S2 := Lib.hid (S1.out.1.stored 2 (.int .i64 tb))
                have S3 := Lib.hid (S2.out.1.stored 3 (.bool pb))
                have k0 := own_cellAt_mid S3.out.1 (j := 0) rfl
                have k1 := own_cellAt_mid S3.out.1 (j := 1) rfl
                have k2 := own_cellAt_mid S3.out.1 (j := 2) rfl
                have k3 := own_cellAt_mid S3.out.1 (j := 3) rfl
                have ZZ := Lib.hid ((Gx.trans (Gx.trans (Gx.trans S0.out.2 S1.out.2) S2.out.2) S3.out.2))
                have OC8 := Lib.hid (own_Gx OC7.out ZZ.out (.inr fun e => by have := (OC7.out.lt _ e).1; omega))
                exact bodyPost_ret (v := .tuple #[.agg #[.slice A M.length c, .int .i64 ta, .int .i64 tb, .bool pb], .bool true]) (by simp [results, Tryd.results10, go_sem, k0, k1, k2, k3]) rfl (rpl_own H.out (Gx.G G7.out ZZ.out (by intro i hi; cases hi; exact Nat.le_refl _)) (OC8.out.mono (by omega)))
end Go.Proofs.YtecakcgkibemaaaDoor
