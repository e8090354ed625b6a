/-
  Walks: a fixture read from a text, by both texts.
-/
import Derived.Test.YtckenipmebeopaaDoorFxM
import Derived.Test.YtckenipmebeopaaDoorTxt
import Derived.Deep.RegionHeld3
import Derived.Deep.DrawnRows
namespace Go.Proofs.YtckenipmebeopaaDoor
open Go.RowKit

def rfE (w : World) (R : SFixture × Bool) (e : Ending) (w' : World) : Prop := e = .returned (.tuple #[.agg #[.string R.1.Name, .int .i64 R.1.Universe, .int .i64 R.1.Address, .int .i64 R.1.Width], .bool R.2]) ∧ G w w'
theorem two_of {L : List ByteArray} (h : L.length = 2) : ∃ a b, L = [a, b] := by
  rcases L with _ | ⟨a, _ | ⟨b, _ | ⟨c, r⟩⟩⟩
  · simp at h
  · simp at h
  · exact ⟨a, b, rfl⟩
  · simp at h

set_option maxRecDepth 20000 in
set_option maxHeartbeats 8000000 in
theorem l20Read_any (s : ByteArray) (hs : s.size ≤ 1048576) (w : World) :
    Calls Tryd.prog 16 #[.string s] w (rfE w (rfR s)) := by
  unfold rfE
  have OQ0 := Lib.hid (own_new (w := w) (base := w.heap.size) (n := 1) (cap := 1) (size := 4) (e := 26) (cur := #[.string ⟨#[]⟩, .int .i64 0, .int .i64 0, .int .i64 0]) (Nat.le_refl _) (by decide) (by decide) rfl)
  have GA := Lib.hid ((G.refl w).alloc (.cells #[.string ⟨#[]⟩, .int .i64 0, .int .i64 0, .int .i64 0] 26))
  have KS := Lib.hid (fun (W : World) => l01Split_any s 32 32 rfl (by omega) W)
  have HPM := Lib.hid (fun (y : ByteArray) (hy : y ∈ splitS 32 s) => (splitS_mem hy).1)
  have HL1 := Lib.hid (fun (h : (splitS 32 s).length ≠ 2) => rf_len1 h)
  have HL2 := Lib.hid (fun (n y : ByteArray) (h1 : splitS 32 s = [n, y]) (h : (splitS 46 y).length ≠ 2) => rf_len2 h1 h)
  have HL3 := Lib.hid (fun (n y u z : ByteArray) (h1 : splitS 32 s = [n, y]) (h2 : splitS 46 y = [u, z]) (h : (splitS 43 z).length ≠ 2) => rf_len3 h1 h2 h)
  have HEQ := Lib.hid (fun (n y u z a b : ByteArray) (h1 : splitS 32 s = [n, y]) (h2 : splitS 46 y = [u, z]) (h3 : splitS 43 z = [a, b]) => rf_eq h1 h2 h3)
  obtain ⟨R, HRR⟩ : ∃ R, Hid (rfR s = R) := ⟨_, rfl⟩
  rw [HRR.out] at HL1 HL2 HL3 HEQ ⊢
  obtain ⟨P, HP⟩ : ∃ P, Hid (splitS 32 s = P) := ⟨_, rfl⟩
  rw [HP.out] at HPM KS HL1 HL2 HL3 HEQ
  by_cases l1 : P.length = 2
  case neg =>
    have H := Lib.hid (HL1.out l1)
    obtain ⟨k, Hk⟩ : ∃ k, Hid (P.length = k) := ⟨_, rfl⟩
    have hd : ((k : Int) == 2) = false := by rw [← Hk.out, beq_eq_false_iff_ne]; omega
    clear l1
    go_enter Tryd.func16, Tryd.ntmps16
    go_wp2_with (go_at_call 27; (with_reducible refine (KS.out _).mono ?_); rintro e w1 ⟨v1, rfl, o1, g1⟩; obtain ⟨A1, c1, rfl, hc1⟩ := own_sl o1; have G1 := Lib.hid (GA.out.trans g1); have OQ1 := Lib.hid (own_G OQ0.out g1); clear o1 g1; rw [Hk.out]; have hcq0 := own_cellAt_mid OQ1.out (j := 0) rfl; have hyq0 := own_frozen_of OQ1.out 0; have hcq1 := own_cellAt_mid OQ1.out (j := 1) rfl; have hyq1 := own_frozen_of OQ1.out 1; have hcq2 := own_cellAt_mid OQ1.out (j := 2) rfl; have hyq2 := own_frozen_of OQ1.out 2; have hcq3 := own_cellAt_mid OQ1.out (j := 3) rfl; have hyq3 := own_frozen_of OQ1.out 3)
    clear hcq0 hyq0 hcq1 hyq1 hcq2 hyq2 hcq3 hyq3
    have S0 := Lib.hid (OQ1.out.stored 0 (.string ⟨#[]⟩))
    have S1 := Lib.hid (S0.out.1.stored 1 (.int .i64 0))
    have S2 := Lib.hid (S1.out.1.stored 2 (.int .i64 0))
    have S3 := Lib.hid (S2.out.1.stored 3 (.int .i64 0))
    have k0 := own_cellAt_mid S3.out.1 (j := 0) rfl
    have k1 := own_cellAt_mid S3.out.1 (j := 1) rfl
    have k2 := own_cellAt_mid S3.out.1 (j := 2) rfl
    have k3 := own_cellAt_mid S3.out.1 (j := 3) rfl
    exact bodyPost_ret (v := .tuple #[.agg #[.string ⟨#[]⟩, .int .i64 0, .int .i64 0, .int .i64 0], .bool false]) (by simp [results, Tryd.results16, go_sem, k0, k1, k2, k3]) rfl ⟨by rw [H.out] <;> rfl, Gx.G G1.out (Gx.trans (Gx.trans (Gx.trans S0.out.2 S1.out.2) S2.out.2) S3.out.2) (by intro i hi; cases hi; exact Nat.le_refl _)⟩
  obtain ⟨nm, y, rfl⟩ := two_of l1
  have hn1 := HPM.out nm (by simp)
  have hn2 := HPM.out y (by simp)
  have hwf : nm.size ≤ maxLen := by unfold maxLen; omega
  have KY := Lib.hid (fun (W : World) => l01Split_any y 46 46 rfl (by omega) W)
  have HYM := Lib.hid (fun (x : ByteArray) (hx : x ∈ splitS 46 y) => (splitS_mem hx).1)
  replace HL2 := Lib.hid (fun h => HL2.out nm y rfl h)
  replace HL3 := Lib.hid (fun (u z : ByteArray) (h2 : splitS 46 y = [u, z]) (h : (splitS 43 z).length ≠ 2) => HL3.out nm y u z rfl h2 h)
  replace HEQ := Lib.hid (fun (u z a b : ByteArray) (h2 : splitS 46 y = [u, z]) (h3 : splitS 43 z = [a, b]) => HEQ.out nm y u z a b rfl h2 h3)
  obtain ⟨Q, HQ⟩ : ∃ Q, Hid (splitS 46 y = Q) := ⟨_, rfl⟩
  rw [HQ.out] at HYM KY HL2 HL3 HEQ
  clear l1 HL1
  by_cases l2 : Q.length = 2
  case neg =>
    have H := Lib.hid (HL2.out l2)
    obtain ⟨k, Hk⟩ : ∃ k, Hid (Q.length = k) := ⟨_, rfl⟩
    have hd : ((k : Int) == 2) = false := by rw [← Hk.out, beq_eq_false_iff_ne]; omega
    clear l2
    go_enter Tryd.func16, Tryd.ntmps16
    go_wp2_with (first | (go_at_call 27; (with_reducible refine (KS.out _).mono ?_); rintro e w1 ⟨v1, rfl, o1, g1⟩; obtain ⟨A1, c1, rfl, hc1⟩ := own_sl o1; have G1 := Lib.hid (GA.out.trans g1); have OQ1 := Lib.hid (own_G OQ0.out g1); obtain ⟨q1, rfl⟩ := own_head o1 (by simp); have h10 := own_cellAt_mid o1 (j := 0) (u := .string nm) rfl; have H10 := Lib.hid h10; have h11 := own_cellAt_mid o1 (j := 1) (u := .string y) rfl; have H11 := Lib.hid h11; clear o1 g1; simp only [List.length_cons, List.length_nil]) | (go_at_call 27; (with_reducible refine (KY.out _).mono ?_); rintro e w2 ⟨v2, rfl, o2, g2⟩; obtain ⟨A2, c2, rfl, hc2⟩ := own_sl o2; have G2 := Lib.hid (G1.out.trans g2); have OQ2 := Lib.hid (own_G OQ1.out g2); clear h10 h11; clear o2 g2; rw [Hk.out]; have hcq0 := own_cellAt_mid OQ2.out (j := 0) rfl; have hyq0 := own_frozen_of OQ2.out 0; have hcq1 := own_cellAt_mid OQ2.out (j := 1) rfl; have hyq1 := own_frozen_of OQ2.out 1; have hcq2 := own_cellAt_mid OQ2.out (j := 2) rfl; have hyq2 := own_frozen_of OQ2.out 2; have hcq3 := own_cellAt_mid OQ2.out (j := 3) rfl; have hyq3 := own_frozen_of OQ2.out 3))
    clear hcq0 hyq0 hcq1 hyq1 hcq2 hyq2 hcq3 hyq3
    have S0 := Lib.hid (OQ2.out.stored 0 (.string ⟨#[]⟩))
    have S1 := Lib.hid (S0.out.1.stored 1 (.int .i64 0))
    have S2 := Lib.hid (S1.out.1.stored 2 (.int .i64 0))
    have S3 := Lib.hid (S2.out.1.stored 3 (.int .i64 0))
    have k0 := own_cellAt_mid S3.out.1 (j := 0) rfl
    have k1 := own_cellAt_mid S3.out.1 (j := 1) rfl
    have k2 := own_cellAt_mid S3.out.1 (j := 2) rfl
    have k3 := own_cellAt_mid S3.out.1 (j := 3) rfl
    exact bodyPost_ret (v := .tuple #[.agg #[.string ⟨#[]⟩, .int .i64 0, .int .i64 0, .int .i64 0], .bool false]) (by simp [results, Tryd.results16, go_sem, k0, k1, k2, k3]) rfl ⟨by rw [H.out] <;> rfl, Gx.G G2.out (Gx.trans (Gx.trans (Gx.trans S0.out.2 S1.out.2) S2.out.2) S3.out.2) (by intro i hi; cases hi; exact Nat.le_refl _)⟩
  obtain ⟨u, z, rfl⟩ := two_of l2
  have hu1 := HYM.out u (by simp)
  have hz1 := HYM.out z (by simp)
  have KZ := Lib.hid (fun (W : World) => l01Split_any z 43 43 rfl (by omega) W)
  have HZM := Lib.hid (fun (x : ByteArray) (hx : x ∈ splitS 43 z) => (splitS_mem hx).1)
  replace HL3 := Lib.hid (fun h => HL3.out u z rfl h)
  replace HEQ := Lib.hid (fun (a b : ByteArray) (h3 : splitS 43 z = [a, b]) => HEQ.out u z a b rfl h3)
  obtain ⟨V, HV⟩ : ∃ V, Hid (splitS 43 z = V) := ⟨_, rfl⟩
  rw [HV.out] at HZM KZ HL3 HEQ
  clear l2 HL2
  by_cases l3 : V.length = 2
  case neg =>
    have H := Lib.hid (HL3.out l3)
    obtain ⟨k, Hk⟩ : ∃ k, Hid (V.length = k) := ⟨_, rfl⟩
    have hd : ((k : Int) == 2) = false := by rw [← Hk.out, beq_eq_false_iff_ne]; omega
    clear l3
    go_enter Tryd.func16, Tryd.ntmps16
    go_wp2_with (first | (go_at_call 27; (with_reducible refine (KS.out _).mono ?_); rintro e w1 ⟨v1, rfl, o1, g1⟩; obtain ⟨A1, c1, rfl, hc1⟩ := own_sl o1; have G1 := Lib.hid (GA.out.trans g1); have OQ1 := Lib.hid (own_G OQ0.out g1); obtain ⟨q1, rfl⟩ := own_head o1 (by simp); have h10 := own_cellAt_mid o1 (j := 0) (u := .string nm) rfl; have H10 := Lib.hid h10; have h11 := own_cellAt_mid o1 (j := 1) (u := .string y) rfl; have H11 := Lib.hid h11; clear o1 g1; simp only [List.length_cons, List.length_nil]) | (go_at_call 27; (with_reducible refine (KY.out _).mono ?_); rintro e w2 ⟨v2, rfl, o2, g2⟩; obtain ⟨A2, c2, rfl, hc2⟩ := own_sl o2; have G2 := Lib.hid (G1.out.trans g2); have OQ2 := Lib.hid (own_G OQ1.out g2); have f10 := g2.cell H10.out; have F10 := Lib.hid f10; clear h10 h11; obtain ⟨q2, rfl⟩ := own_head o2 (by simp); have h20 := own_cellAt_mid o2 (j := 0) (u := .string u) rfl; have H20 := Lib.hid h20; have h21 := own_cellAt_mid o2 (j := 1) (u := .string z) rfl; have H21 := Lib.hid h21; clear o2 g2; simp only [List.length_cons, List.length_nil]) | (go_at_call 27; (with_reducible refine (KZ.out _).mono ?_); rintro e w3 ⟨v3, rfl, o3, g3⟩; obtain ⟨A3, c3, rfl, hc3⟩ := own_sl o3; have G3 := Lib.hid (G2.out.trans g3); have OQ3 := Lib.hid (own_G OQ2.out g3); clear h20 h21 f10; clear o3 g3; rw [Hk.out]; have hcq0 := own_cellAt_mid OQ3.out (j := 0) rfl; have hyq0 := own_frozen_of OQ3.out 0; have hcq1 := own_cellAt_mid OQ3.out (j := 1) rfl; have hyq1 := own_frozen_of OQ3.out 1; have hcq2 := own_cellAt_mid OQ3.out (j := 2) rfl; have hyq2 := own_frozen_of OQ3.out 2; have hcq3 := own_cellAt_mid OQ3.out (j := 3) rfl; have hyq3 := own_frozen_of OQ3.out 3))
    clear hcq0 hyq0 hcq1 hyq1 hcq2 hyq2 hcq3 hyq3
    have S0 := Lib.hid (OQ3.out.stored 0 (.string ⟨#[]⟩))
    have S1 := Lib.hid (S0.out.1.stored 1 (.int .i64 0))
    have S2 := Lib.hid (S1.out.1.stored 2 (.int .i64 0))
    have S3 := Lib.hid (S2.out.1.stored 3 (.int .i64 0))
    have k0 := own_cellAt_mid S3.out.1 (j := 0) rfl
    have k1 := own_cellAt_mid S3.out.1 (j := 1) rfl
    have k2 := own_cellAt_mid S3.out.1 (j := 2) rfl
    have k3 := own_cellAt_mid S3.out.1 (j := 3) rfl
    exact bodyPost_ret (v := .tuple #[.agg #[.string ⟨#[]⟩, .int .i64 0, .int .i64 0, .int .i64 0], .bool false]) (by simp [results, Tryd.results16, go_sem, k0, k1, k2, k3]) rfl ⟨by rw [H.out] <;> rfl, Gx.G G3.out (Gx.trans (Gx.trans (Gx.trans S0.out.2 S1.out.2) S2.out.2) S3.out.2) (by intro i hi; cases hi; exact Nat.le_refl _)⟩
  obtain ⟨a, b, rfl⟩ := two_of l3
  have ha1 := HZM.out a (by simp)
  have hb1 := HZM.out b (by simp)
  have HE := Lib.hid (HEQ.out a b rfl)
  have KU := Lib.hid (fun (W : World) => l01Number_any u (by omega) W)
  have KA := Lib.hid (fun (W : World) => l01Number_any a (by omega) W)
  have KB := Lib.hid (fun (W : World) => l01Number_any b (by omega) W)
  obtain ⟨nu, HNU⟩ : ∃ x, Hid (valN u = x) := ⟨_, rfl⟩
  obtain ⟨na, HNA⟩ : ∃ x, Hid (valN a = x) := ⟨_, rfl⟩
  obtain ⟨nb, HNB⟩ : ∃ x, Hid (valN b = x) := ⟨_, rfl⟩
  obtain ⟨ou, HOU⟩ : ∃ x, Hid (okN u = x) := ⟨_, rfl⟩
  obtain ⟨oa, HOA⟩ : ∃ x, Hid (okN a = x) := ⟨_, rfl⟩
  obtain ⟨ob, HOB⟩ : ∃ x, Hid (okN b = x) := ⟨_, rfl⟩
  rw [HNU.out, HOU.out] at KU
  rw [HNA.out, HOA.out] at KA
  rw [HNB.out, HOB.out] at KB
  rw [HNU.out, HNA.out, HNB.out, HOU.out, HOA.out, HOB.out] at HE
  clear l3 HL3 HEQ HOU HOA HOB
  cases ou
  · have H := Lib.hid (show R = (fxZ, false) by rw [HE.out, if_neg (by simp)])
    go_enter Tryd.func16, Tryd.ntmps16
    go_wp2_with (first | (go_at_call 27; (with_reducible refine (KS.out _).mono ?_); rintro e w1 ⟨v1, rfl, o1, g1⟩; obtain ⟨A1, c1, rfl, hc1⟩ := own_sl o1; have G1 := Lib.hid (GA.out.trans g1); have OQ1 := Lib.hid (own_G OQ0.out g1); obtain ⟨q1, rfl⟩ := own_head o1 (by simp); have h10 := own_cellAt_mid o1 (j := 0) (u := .string nm) rfl; have H10 := Lib.hid h10; have h11 := own_cellAt_mid o1 (j := 1) (u := .string y) rfl; have H11 := Lib.hid h11; clear o1 g1; simp only [List.length_cons, List.length_nil]) | (go_at_call 27; (with_reducible refine (KY.out _).mono ?_); rintro e w2 ⟨v2, rfl, o2, g2⟩; obtain ⟨A2, c2, rfl, hc2⟩ := own_sl o2; have G2 := Lib.hid (G1.out.trans g2); have OQ2 := Lib.hid (own_G OQ1.out g2); have f10 := g2.cell H10.out; have F10 := Lib.hid f10; clear h10 h11; obtain ⟨q2, rfl⟩ := own_head o2 (by simp); have h20 := own_cellAt_mid o2 (j := 0) (u := .string u) rfl; have H20 := Lib.hid h20; have h21 := own_cellAt_mid o2 (j := 1) (u := .string z) rfl; have H21 := Lib.hid h21; clear o2 g2; simp only [List.length_cons, List.length_nil]) | (go_at_call 27; (with_reducible refine (KZ.out _).mono ?_); rintro e w3 ⟨v3, rfl, o3, g3⟩; obtain ⟨A3, c3, rfl, hc3⟩ := own_sl o3; have G3 := Lib.hid (G2.out.trans g3); have OQ3 := Lib.hid (own_G OQ2.out g3); have f20 := g3.cell H20.out; have F20 := Lib.hid f20; have e10 := g3.cell F10.out; have E10 := Lib.hid e10; clear h20 h21 f10; obtain ⟨q3, rfl⟩ := own_head o3 (by simp); have h30 := own_cellAt_mid o3 (j := 0) (u := .string a) rfl; have H30 := Lib.hid h30; have h31 := own_cellAt_mid o3 (j := 1) (u := .string b) rfl; have H31 := Lib.hid h31; clear o3 g3; simp only [List.length_cons, List.length_nil]) | (go_at_call 28; (with_reducible refine (KU.out _).mono ?_); rintro e w4 ⟨rfl, g4⟩; have G4 := Lib.hid (G3.out.trans g4); have OQ4 := Lib.hid (own_G OQ3.out g4); have d30 := g4.cell H30.out; have d31 := g4.cell H31.out; have D31 := Lib.hid d31; have d10 := g4.cell E10.out; have D10 := Lib.hid d10; clear g4 f20 e10 h30 h31) | (go_at_call 28; (with_reducible refine (KA.out _).mono ?_); rintro e w5 ⟨rfl, g5⟩; have G5 := Lib.hid (G4.out.trans g5); have OQ5 := Lib.hid (own_G OQ4.out g5); have b31 := g5.cell D31.out; have b10 := g5.cell D10.out; have B10 := Lib.hid b10; clear g5 d30 d31 d10) | (go_at_call 28; (with_reducible refine (KB.out _).mono ?_); rintro e w6 ⟨rfl, g6⟩; have G6 := Lib.hid (G5.out.trans g6); have OQ6 := Lib.hid (own_G OQ5.out g6); have a10 := g6.cell B10.out; clear g6 b31 b10; have GB := Lib.hid ((G.refl w6).alloc (.cells #[.string nm, .int .i64 nu, .int .i64 na, .int .i64 nb] 26)); have OQ7 := Lib.hid (own_G OQ6.out GB.out); have G7 := Lib.hid (G6.out.trans GB.out); have hcq0 := own_cellAt_mid OQ7.out (j := 0) rfl; have hyq0 := own_frozen_of OQ7.out 0; have hcq1 := own_cellAt_mid OQ7.out (j := 1) rfl; have hyq1 := own_frozen_of OQ7.out 1; have hcq2 := own_cellAt_mid OQ7.out (j := 2) rfl; have hyq2 := own_frozen_of OQ7.out 2; have hcq3 := own_cellAt_mid OQ7.out (j := 3) rfl; have hyq3 := own_frozen_of OQ7.out 3))
    clear hcq0 hyq0 hcq1 hyq1 hcq2 hyq2 hcq3 hyq3
    have S0 := Lib.hid (OQ7.out.stored 0 (.string ⟨#[]⟩))
    have S1 := Lib.hid (S0.out.1.stored 1 (.int .i64 0))
    have S2 := Lib.hid (S1.out.1.stored 2 (.int .i64 0))
    have S3 := Lib.hid (S2.out.1.stored 3 (.int .i64 0))
    have k0 := own_cellAt_mid S3.out.1 (j := 0) rfl
    have k1 := own_cellAt_mid S3.out.1 (j := 1) rfl
    have k2 := own_cellAt_mid S3.out.1 (j := 2) rfl
    have k3 := own_cellAt_mid S3.out.1 (j := 3) rfl
    exact bodyPost_ret (v := .tuple #[.agg #[.string ⟨#[]⟩, .int .i64 0, .int .i64 0, .int .i64 0], .bool false]) (by simp [results, Tryd.results16, go_sem, k0, k1, k2, k3]) rfl ⟨by rw [H.out] <;> rfl, Gx.G G7.out (Gx.trans (Gx.trans (Gx.trans S0.out.2 S1.out.2) S2.out.2) S3.out.2) (by intro i hi; cases hi; exact Nat.le_refl _)⟩
  cases oa
  · have H := Lib.hid (show R = (fxZ, false) by rw [HE.out, if_neg (by simp)])
    go_enter Tryd.func16, Tryd.ntmps16
    go_wp2_with (first | (go_at_call 27; (with_reducible refine (KS.out _).mono ?_); rintro e w1 ⟨v1, rfl, o1, g1⟩; obtain ⟨A1, c1, rfl, hc1⟩ := own_sl o1; have G1 := Lib.hid (GA.out.trans g1); have OQ1 := Lib.hid (own_G OQ0.out g1); obtain ⟨q1, rfl⟩ := own_head o1 (by simp); have h10 := own_cellAt_mid o1 (j := 0) (u := .string nm) rfl; have H10 := Lib.hid h10; have h11 := own_cellAt_mid o1 (j := 1) (u := .string y) rfl; have H11 := Lib.hid h11; clear o1 g1; simp only [List.length_cons, List.length_nil]) | (go_at_call 27; (with_reducible refine (KY.out _).mono ?_); rintro e w2 ⟨v2, rfl, o2, g2⟩; obtain ⟨A2, c2, rfl, hc2⟩ := own_sl o2; have G2 := Lib.hid (G1.out.trans g2); have OQ2 := Lib.hid (own_G OQ1.out g2); have f10 := g2.cell H10.out; have F10 := Lib.hid f10; clear h10 h11; obtain ⟨q2, rfl⟩ := own_head o2 (by simp); have h20 := own_cellAt_mid o2 (j := 0) (u := .string u) rfl; have H20 := Lib.hid h20; have h21 := own_cellAt_mid o2 (j := 1) (u := .string z) rfl; have H21 := Lib.hid h21; clear o2 g2; simp only [List.length_cons, List.length_nil]) | (go_at_call 27; (with_reducible refine (KZ.out _).mono ?_); rintro e w3 ⟨v3, rfl, o3, g3⟩; obtain ⟨A3, c3, rfl, hc3⟩ := own_sl o3; have G3 := Lib.hid (G2.out.trans g3); have OQ3 := Lib.hid (own_G OQ2.out g3); have f20 := g3.cell H20.out; have F20 := Lib.hid f20; have e10 := g3.cell F10.out; have E10 := Lib.hid e10; clear h20 h21 f10; obtain ⟨q3, rfl⟩ := own_head o3 (by simp); have h30 := own_cellAt_mid o3 (j := 0) (u := .string a) rfl; have H30 := Lib.hid h30; have h31 := own_cellAt_mid o3 (j := 1) (u := .string b) rfl; have H31 := Lib.hid h31; clear o3 g3; simp only [List.length_cons, List.length_nil]) | (go_at_call 28; (with_reducible refine (KU.out _).mono ?_); rintro e w4 ⟨rfl, g4⟩; have G4 := Lib.hid (G3.out.trans g4); have OQ4 := Lib.hid (own_G OQ3.out g4); have d30 := g4.cell H30.out; have d31 := g4.cell H31.out; have D31 := Lib.hid d31; have d10 := g4.cell E10.out; have D10 := Lib.hid d10; clear g4 f20 e10 h30 h31) | (go_at_call 28; (with_reducible refine (KA.out _).mono ?_); rintro e w5 ⟨rfl, g5⟩; have G5 := Lib.hid (G4.out.trans g5); have OQ5 := Lib.hid (own_G OQ4.out g5); have b31 := g5.cell D31.out; have b10 := g5.cell D10.out; have B10 := Lib.hid b10; clear g5 d30 d31 d10) | (go_at_call 28; (with_reducible refine (KB.out _).mono ?_); rintro e w6 ⟨rfl, g6⟩; have G6 := Lib.hid (G5.out.trans g6); have OQ6 := Lib.hid (own_G OQ5.out g6); have a10 := g6.cell B10.out; clear g6 b31 b10; have GB := Lib.hid ((G.refl w6).alloc (.cells #[.string nm, .int .i64 nu, .int .i64 na, .int .i64 nb] 26)); have OQ7 := Lib.hid (own_G OQ6.out GB.out); have G7 := Lib.hid (G6.out.trans GB.out); have hcq0 := own_cellAt_mid OQ7.out (j := 0) rfl; have hyq0 := own_frozen_of OQ7.out 0; have hcq1 := own_cellAt_mid OQ7.out (j := 1) rfl; have hyq1 := own_frozen_of OQ7.out 1; have hcq2 := own_cellAt_mid OQ7.out (j := 2) rfl; have hyq2 := own_frozen_of OQ7.out 2; have hcq3 := own_cellAt_mid OQ7.out (j := 3) rfl; have hyq3 := own_frozen_of OQ7.out 3))
    clear hcq0 hyq0 hcq1 hyq1 hcq2 hyq2 hcq3 hyq3
    have S0 := Lib.hid (OQ7.out.stored 0 (.string ⟨#[]⟩))
    have S1 := Lib.hid (S0.out.1.stored 1 (.int .i64 0))
    have S2 := Lib.hid (S1.out.1.stored 2 (.int .i64 0))
    have S3 := Lib.hid (S2.out.1.stored 3 (.int .i64 0))
    have k0 := own_cellAt_mid S3.out.1 (j := 0) rfl
    have k1 := own_cellAt_mid S3.out.1 (j := 1) rfl
    have k2 := own_cellAt_mid S3.out.1 (j := 2) rfl
    have k3 := own_cellAt_mid S3.out.1 (j := 3) rfl
    exact bodyPost_ret (v := .tuple #[.agg #[.string ⟨#[]⟩, .int .i64 0, .int .i64 0, .int .i64 0], .bool false]) (by simp [results, Tryd.results16, go_sem, k0, k1, k2, k3]) rfl ⟨by rw [H.out] <;> rfl, Gx.G G7.out (Gx.trans (Gx.trans (Gx.trans S0.out.2 S1.out.2) S2.out.2) S3.out.2) (by intro i hi; cases hi; exact Nat.le_refl _)⟩
  cases ob
  · have H := Lib.hid (show R = (fxZ, false) by rw [HE.out, if_neg (by simp)])
    go_enter Tryd.func16, Tryd.ntmps16
    go_wp2_with (first | (go_at_call 27; (with_reducible refine (KS.out _).mono ?_); rintro e w1 ⟨v1, rfl, o1, g1⟩; obtain ⟨A1, c1, rfl, hc1⟩ := own_sl o1; have G1 := Lib.hid (GA.out.trans g1); have OQ1 := Lib.hid (own_G OQ0.out g1); obtain ⟨q1, rfl⟩ := own_head o1 (by simp); have h10 := own_cellAt_mid o1 (j := 0) (u := .string nm) rfl; have H10 := Lib.hid h10; have h11 := own_cellAt_mid o1 (j := 1) (u := .string y) rfl; have H11 := Lib.hid h11; clear o1 g1; simp only [List.length_cons, List.length_nil]) | (go_at_call 27; (with_reducible refine (KY.out _).mono ?_); rintro e w2 ⟨v2, rfl, o2, g2⟩; obtain ⟨A2, c2, rfl, hc2⟩ := own_sl o2; have G2 := Lib.hid (G1.out.trans g2); have OQ2 := Lib.hid (own_G OQ1.out g2); have f10 := g2.cell H10.out; have F10 := Lib.hid f10; clear h10 h11; obtain ⟨q2, rfl⟩ := own_head o2 (by simp); have h20 := own_cellAt_mid o2 (j := 0) (u := .string u) rfl; have H20 := Lib.hid h20; have h21 := own_cellAt_mid o2 (j := 1) (u := .string z) rfl; have H21 := Lib.hid h21; clear o2 g2; simp only [List.length_cons, List.length_nil]) | (go_at_call 27; (with_reducible refine (KZ.out _).mono ?_); rintro e w3 ⟨v3, rfl, o3, g3⟩; obtain ⟨A3, c3, rfl, hc3⟩ := own_sl o3; have G3 := Lib.hid (G2.out.trans g3); have OQ3 := Lib.hid (own_G OQ2.out g3); have f20 := g3.cell H20.out; have F20 := Lib.hid f20; have e10 := g3.cell F10.out; have E10 := Lib.hid e10; clear h20 h21 f10; obtain ⟨q3, rfl⟩ := own_head o3 (by simp); have h30 := own_cellAt_mid o3 (j := 0) (u := .string a) rfl; have H30 := Lib.hid h30; have h31 := own_cellAt_mid o3 (j := 1) (u := .string b) rfl; have H31 := Lib.hid h31; clear o3 g3; simp only [List.length_cons, List.length_nil]) | (go_at_call 28; (with_reducible refine (KU.out _).mono ?_); rintro e w4 ⟨rfl, g4⟩; have G4 := Lib.hid (G3.out.trans g4); have OQ4 := Lib.hid (own_G OQ3.out g4); have d30 := g4.cell H30.out; have d31 := g4.cell H31.out; have D31 := Lib.hid d31; have d10 := g4.cell E10.out; have D10 := Lib.hid d10; clear g4 f20 e10 h30 h31) | (go_at_call 28; (with_reducible refine (KA.out _).mono ?_); rintro e w5 ⟨rfl, g5⟩; have G5 := Lib.hid (G4.out.trans g5); have OQ5 := Lib.hid (own_G OQ4.out g5); have b31 := g5.cell D31.out; have b10 := g5.cell D10.out; have B10 := Lib.hid b10; clear g5 d30 d31 d10) | (go_at_call 28; (with_reducible refine (KB.out _).mono ?_); rintro e w6 ⟨rfl, g6⟩; have G6 := Lib.hid (G5.out.trans g6); have OQ6 := Lib.hid (own_G OQ5.out g6); have a10 := g6.cell B10.out; clear g6 b31 b10; have GB := Lib.hid ((G.refl w6).alloc (.cells #[.string nm, .int .i64 nu, .int .i64 na, .int .i64 nb] 26)); have OQ7 := Lib.hid (own_G OQ6.out GB.out); have G7 := Lib.hid (G6.out.trans GB.out); have hcq0 := own_cellAt_mid OQ7.out (j := 0) rfl; have hyq0 := own_frozen_of OQ7.out 0; have hcq1 := own_cellAt_mid OQ7.out (j := 1) rfl; have hyq1 := own_frozen_of OQ7.out 1; have hcq2 := own_cellAt_mid OQ7.out (j := 2) rfl; have hyq2 := own_frozen_of OQ7.out 2; have hcq3 := own_cellAt_mid OQ7.out (j := 3) rfl; have hyq3 := own_frozen_of OQ7.out 3))
    clear hcq0 hyq0 hcq1 hyq1 hcq2 hyq2 hcq3 hyq3
    have S0 := Lib.hid (OQ7.out.stored 0 (.string ⟨#[]⟩))
    have S1 := Lib.hid (S0.out.1.stored 1 (.int .i64 0))
    have S2 := Lib.hid (S1.out.1.stored 2 (.int .i64 0))
    have S3 := Lib.hid (S2.out.1.stored 3 (.int .i64 0))
    have k0 := own_cellAt_mid S3.out.1 (j := 0) rfl
    have k1 := own_cellAt_mid S3.out.1 (j := 1) rfl
    have k2 := own_cellAt_mid S3.out.1 (j := 2) rfl
    have k3 := own_cellAt_mid S3.out.1 (j := 3) rfl
    exact bodyPost_ret (v := .tuple #[.agg #[.string ⟨#[]⟩, .int .i64 0, .int .i64 0, .int .i64 0], .bool false]) (by simp [results, Tryd.results16, go_sem, k0, k1, k2, k3]) rfl ⟨by rw [H.out] <;> rfl, Gx.G G7.out (Gx.trans (Gx.trans (Gx.trans S0.out.2 S1.out.2) S2.out.2) S3.out.2) (by intro i hi; cases hi; exact Nat.le_refl _)⟩
  have K1 := Lib.hid (fun (b : Nat) (W : World) => l20One_any ⟨nm, nu, na, nb⟩ hwf b 0 W)
  cases hv : vfB ⟨nm, nu, na, nb⟩
  · rw [hv] at K1
    have H := Lib.hid (show R = (fxZ, false) by rw [HE.out, if_neg (by rw [hv]; simp)])
    clear hv
    go_enter Tryd.func16, Tryd.ntmps16
    go_wp2_with (first | (go_at_call 27; (with_reducible refine (KS.out _).mono ?_); rintro e w1 ⟨v1, rfl, o1, g1⟩; obtain ⟨A1, c1, rfl, hc1⟩ := own_sl o1; have G1 := Lib.hid (GA.out.trans g1); have OQ1 := Lib.hid (own_G OQ0.out g1); obtain ⟨q1, rfl⟩ := own_head o1 (by simp); have h10 := own_cellAt_mid o1 (j := 0) (u := .string nm) rfl; have H10 := Lib.hid h10; have h11 := own_cellAt_mid o1 (j := 1) (u := .string y) rfl; have H11 := Lib.hid h11; clear o1 g1; simp only [List.length_cons, List.length_nil]) | (go_at_call 27; (with_reducible refine (KY.out _).mono ?_); rintro e w2 ⟨v2, rfl, o2, g2⟩; obtain ⟨A2, c2, rfl, hc2⟩ := own_sl o2; have G2 := Lib.hid (G1.out.trans g2); have OQ2 := Lib.hid (own_G OQ1.out g2); have f10 := g2.cell H10.out; have F10 := Lib.hid f10; clear h10 h11; obtain ⟨q2, rfl⟩ := own_head o2 (by simp); have h20 := own_cellAt_mid o2 (j := 0) (u := .string u) rfl; have H20 := Lib.hid h20; have h21 := own_cellAt_mid o2 (j := 1) (u := .string z) rfl; have H21 := Lib.hid h21; clear o2 g2; simp only [List.length_cons, List.length_nil]) | (go_at_call 27; (with_reducible refine (KZ.out _).mono ?_); rintro e w3 ⟨v3, rfl, o3, g3⟩; obtain ⟨A3, c3, rfl, hc3⟩ := own_sl o3; have G3 := Lib.hid (G2.out.trans g3); have OQ3 := Lib.hid (own_G OQ2.out g3); have f20 := g3.cell H20.out; have F20 := Lib.hid f20; have e10 := g3.cell F10.out; have E10 := Lib.hid e10; clear h20 h21 f10; obtain ⟨q3, rfl⟩ := own_head o3 (by simp); have h30 := own_cellAt_mid o3 (j := 0) (u := .string a) rfl; have H30 := Lib.hid h30; have h31 := own_cellAt_mid o3 (j := 1) (u := .string b) rfl; have H31 := Lib.hid h31; clear o3 g3; simp only [List.length_cons, List.length_nil]) | (go_at_call 28; (with_reducible refine (KU.out _).mono ?_); rintro e w4 ⟨rfl, g4⟩; have G4 := Lib.hid (G3.out.trans g4); have OQ4 := Lib.hid (own_G OQ3.out g4); have d30 := g4.cell H30.out; have d31 := g4.cell H31.out; have D31 := Lib.hid d31; have d10 := g4.cell E10.out; have D10 := Lib.hid d10; clear g4 f20 e10 h30 h31) | (go_at_call 28; (with_reducible refine (KA.out _).mono ?_); rintro e w5 ⟨rfl, g5⟩; have G5 := Lib.hid (G4.out.trans g5); have OQ5 := Lib.hid (own_G OQ4.out g5); have b31 := g5.cell D31.out; have b10 := g5.cell D10.out; have B10 := Lib.hid b10; clear g5 d30 d31 d10) | (go_at_call 28; (with_reducible refine (KB.out _).mono ?_); rintro e w6 ⟨rfl, g6⟩; have G6 := Lib.hid (G5.out.trans g6); have OQ6 := Lib.hid (own_G OQ5.out g6); have a10 := g6.cell B10.out; clear g6 b31 b10; have GB := Lib.hid ((G.refl w6).alloc (.cells #[.string nm, .int .i64 nu, .int .i64 na, .int .i64 nb] 26)); have OQ7 := Lib.hid (own_G OQ6.out GB.out); have G7 := Lib.hid (G6.out.trans GB.out); have CB0 := Lib.hid (show (w6.alloc (.cells #[.string nm, .int .i64 nu, .int .i64 na, .int .i64 nb] 26)).cell? ⟨w6.heap.size, 0, none⟩ = some (.string nm) from World.cell?_alloc_at _ _ _ _ rfl); have CB1 := Lib.hid (show (w6.alloc (.cells #[.string nm, .int .i64 nu, .int .i64 na, .int .i64 nb] 26)).cell? ⟨w6.heap.size, 1, none⟩ = some (.int .i64 nu) from World.cell?_alloc_at _ _ _ _ rfl); have CB2 := Lib.hid (show (w6.alloc (.cells #[.string nm, .int .i64 nu, .int .i64 na, .int .i64 nb] 26)).cell? ⟨w6.heap.size, 2, none⟩ = some (.int .i64 na) from World.cell?_alloc_at _ _ _ _ rfl); have CB3 := Lib.hid (show (w6.alloc (.cells #[.string nm, .int .i64 nu, .int .i64 na, .int .i64 nb] 26)).cell? ⟨w6.heap.size, 3, none⟩ = some (.int .i64 nb) from World.cell?_alloc_at _ _ _ _ rfl)) | (go_at_call 12; (with_reducible refine (K1.out w6.heap.size _ CB0.out CB1.out CB2.out CB3.out).mono ?_); rintro e w8 ⟨rfl, g8⟩; have G8 := Lib.hid (G7.out.trans g8); have OQ8 := Lib.hid (own_G OQ7.out g8); have hcb0 := g8.cell CB0.out; have hcb1 := g8.cell CB1.out; have hcb2 := g8.cell CB2.out; have hcb3 := g8.cell CB3.out; have hcq0 := own_cellAt_mid OQ8.out (j := 0) rfl; have hyq0 := own_frozen_of OQ8.out 0; have hcq1 := own_cellAt_mid OQ8.out (j := 1) rfl; have hyq1 := own_frozen_of OQ8.out 1; have hcq2 := own_cellAt_mid OQ8.out (j := 2) rfl; have hyq2 := own_frozen_of OQ8.out 2; have hcq3 := own_cellAt_mid OQ8.out (j := 3) rfl; have hyq3 := own_frozen_of OQ8.out 3; clear g8))
    clear hcb0 hcb1 hcb2 hcb3
    clear hcq0 hyq0 hcq1 hyq1 hcq2 hyq2 hcq3 hyq3
    have S0 := Lib.hid (OQ8.out.stored 0 (.string ⟨#[]⟩))
    have S1 := Lib.hid (S0.out.1.stored 1 (.int .i64 0))
    have S2 := Lib.hid (S1.out.1.stored 2 (.int .i64 0))
    have S3 := Lib.hid (S2.out.1.stored 3 (.int .i64 0))
    have k0 := own_cellAt_mid S3.out.1 (j := 0) rfl
    have k1 := own_cellAt_mid S3.out.1 (j := 1) rfl
    have k2 := own_cellAt_mid S3.out.1 (j := 2) rfl
    have k3 := own_cellAt_mid S3.out.1 (j := 3) rfl
    exact bodyPost_ret (v := .tuple #[.agg #[.string ⟨#[]⟩, .int .i64 0, .int .i64 0, .int .i64 0], .bool false]) (by simp [results, Tryd.results16, go_sem, k0, k1, k2, k3]) rfl ⟨by rw [H.out] <;> rfl, Gx.G G8.out (Gx.trans (Gx.trans (Gx.trans S0.out.2 S1.out.2) S2.out.2) S3.out.2) (by intro i hi; cases hi; exact Nat.le_refl _)⟩
  · rw [hv] at K1
    have H := Lib.hid (show R = (⟨nm, nu, na, nb⟩, true) by rw [HE.out, if_pos ⟨rfl, rfl, rfl, hv⟩])
    clear hv
    go_enter Tryd.func16, Tryd.ntmps16
    go_wp2_with (first | (go_at_call 27; (with_reducible refine (KS.out _).mono ?_); rintro e w1 ⟨v1, rfl, o1, g1⟩; obtain ⟨A1, c1, rfl, hc1⟩ := own_sl o1; have G1 := Lib.hid (GA.out.trans g1); have OQ1 := Lib.hid (own_G OQ0.out g1); obtain ⟨q1, rfl⟩ := own_head o1 (by simp); have h10 := own_cellAt_mid o1 (j := 0) (u := .string nm) rfl; have H10 := Lib.hid h10; have h11 := own_cellAt_mid o1 (j := 1) (u := .string y) rfl; have H11 := Lib.hid h11; clear o1 g1; simp only [List.length_cons, List.length_nil]) | (go_at_call 27; (with_reducible refine (KY.out _).mono ?_); rintro e w2 ⟨v2, rfl, o2, g2⟩; obtain ⟨A2, c2, rfl, hc2⟩ := own_sl o2; have G2 := Lib.hid (G1.out.trans g2); have OQ2 := Lib.hid (own_G OQ1.out g2); have f10 := g2.cell H10.out; have F10 := Lib.hid f10; clear h10 h11; obtain ⟨q2, rfl⟩ := own_head o2 (by simp); have h20 := own_cellAt_mid o2 (j := 0) (u := .string u) rfl; have H20 := Lib.hid h20; have h21 := own_cellAt_mid o2 (j := 1) (u := .string z) rfl; have H21 := Lib.hid h21; clear o2 g2; simp only [List.length_cons, List.length_nil]) | (go_at_call 27; (with_reducible refine (KZ.out _).mono ?_); rintro e w3 ⟨v3, rfl, o3, g3⟩; obtain ⟨A3, c3, rfl, hc3⟩ := own_sl o3; have G3 := Lib.hid (G2.out.trans g3); have OQ3 := Lib.hid (own_G OQ2.out g3); have f20 := g3.cell H20.out; have F20 := Lib.hid f20; have e10 := g3.cell F10.out; have E10 := Lib.hid e10; clear h20 h21 f10; obtain ⟨q3, rfl⟩ := own_head o3 (by simp); have h30 := own_cellAt_mid o3 (j := 0) (u := .string a) rfl; have H30 := Lib.hid h30; have h31 := own_cellAt_mid o3 (j := 1) (u := .string b) rfl; have H31 := Lib.hid h31; clear o3 g3; simp only [List.length_cons, List.length_nil]) | (go_at_call 28; (with_reducible refine (KU.out _).mono ?_); rintro e w4 ⟨rfl, g4⟩; have G4 := Lib.hid (G3.out.trans g4); have OQ4 := Lib.hid (own_G OQ3.out g4); have d30 := g4.cell H30.out; have d31 := g4.cell H31.out; have D31 := Lib.hid d31; have d10 := g4.cell E10.out; have D10 := Lib.hid d10; clear g4 f20 e10 h30 h31) | (go_at_call 28; (with_reducible refine (KA.out _).mono ?_); rintro e w5 ⟨rfl, g5⟩; have G5 := Lib.hid (G4.out.trans g5); have OQ5 := Lib.hid (own_G OQ4.out g5); have b31 := g5.cell D31.out; have b10 := g5.cell D10.out; have B10 := Lib.hid b10; clear g5 d30 d31 d10) | (go_at_call 28; (with_reducible refine (KB.out _).mono ?_); rintro e w6 ⟨rfl, g6⟩; have G6 := Lib.hid (G5.out.trans g6); have OQ6 := Lib.hid (own_G OQ5.out g6); have a10 := g6.cell B10.out; clear g6 b31 b10; have GB := Lib.hid ((G.refl w6).alloc (.cells #[.string nm, .int .i64 nu, .int .i64 na, .int .i64 nb] 26)); have OQ7 := Lib.hid (own_G OQ6.out GB.out); have G7 := Lib.hid (G6.out.trans GB.out); have CB0 := Lib.hid (show (w6.alloc (.cells #[.string nm, .int .i64 nu, .int .i64 na, .int .i64 nb] 26)).cell? ⟨w6.heap.size, 0, none⟩ = some (.string nm) from World.cell?_alloc_at _ _ _ _ rfl); have CB1 := Lib.hid (show (w6.alloc (.cells #[.string nm, .int .i64 nu, .int .i64 na, .int .i64 nb] 26)).cell? ⟨w6.heap.size, 1, none⟩ = some (.int .i64 nu) from World.cell?_alloc_at _ _ _ _ rfl); have CB2 := Lib.hid (show (w6.alloc (.cells #[.string nm, .int .i64 nu, .int .i64 na, .int .i64 nb] 26)).cell? ⟨w6.heap.size, 2, none⟩ = some (.int .i64 na) from World.cell?_alloc_at _ _ _ _ rfl); have CB3 := Lib.hid (show (w6.alloc (.cells #[.string nm, .int .i64 nu, .int .i64 na, .int .i64 nb] 26)).cell? ⟨w6.heap.size, 3, none⟩ = some (.int .i64 nb) from World.cell?_alloc_at _ _ _ _ rfl)) | (go_at_call 12; (with_reducible refine (K1.out w6.heap.size _ CB0.out CB1.out CB2.out CB3.out).mono ?_); rintro e w8 ⟨rfl, g8⟩; have G8 := Lib.hid (G7.out.trans g8); have OQ8 := Lib.hid (own_G OQ7.out g8); have hcb0 := g8.cell CB0.out; have hcb1 := g8.cell CB1.out; have hcb2 := g8.cell CB2.out; have hcb3 := g8.cell CB3.out; have hcq0 := own_cellAt_mid OQ8.out (j := 0) rfl; have hyq0 := own_frozen_of OQ8.out 0; have hcq1 := own_cellAt_mid OQ8.out (j := 1) rfl; have hyq1 := own_frozen_of OQ8.out 1; have hcq2 := own_cellAt_mid OQ8.out (j := 2) rfl; have hyq2 := own_frozen_of OQ8.out 2; have hcq3 := own_cellAt_mid OQ8.out (j := 3) rfl; have hyq3 := own_frozen_of OQ8.out 3; clear g8))
    clear hcb0 hcb1 hcb2 hcb3
    clear hcq0 hyq0 hcq1 hyq1 hcq2 hyq2 hcq3 hyq3
    have S0 := Lib.hid (OQ8.out.stored 0 (.string nm))
    have S1 := Lib.hid (S0.out.1.stored 1 (.int .i64 nu))
    have S2 := Lib.hid (S1.out.1.stored 2 (.int .i64 na))
    have S3 := Lib.hid (S2.out.1.stored 3 (.int .i64 nb))
    have k0 := own_cellAt_mid S3.out.1 (j := 0) rfl
    have k1 := own_cellAt_mid S3.out.1 (j := 1) rfl
    have k2 := own_cellAt_mid S3.out.1 (j := 2) rfl
    have k3 := own_cellAt_mid S3.out.1 (j := 3) rfl
    exact bodyPost_ret (v := .tuple #[.agg #[.string nm, .int .i64 nu, .int .i64 na, .int .i64 nb], .bool true]) (by simp [results, Tryd.results16, go_sem, k0, k1, k2, k3]) rfl ⟨by rw [H.out] <;> rfl, Gx.G G8.out (Gx.trans (Gx.trans (Gx.trans S0.out.2 S1.out.2) S2.out.2) S3.out.2) (by intro i hi; cases hi; exact Nat.le_refl _)⟩

set_option maxRecDepth 20000 in
set_option maxHeartbeats 4000000 in
theorem sReadFixture_any (s : ByteArray) (w : World) (hs : s.size ≤ 1048576) :
    Calls Tryd.prog 9 #[.string s] w (rfE w (rfR s)) := by
  unfold rfE
  have OQ0 := Lib.hid (own_new (w := w) (base := w.heap.size) (n := 1) (cap := 1) (size := 4) (e := 26) (cur := #[.string ⟨#[]⟩, .int .i64 0, .int .i64 0, .int .i64 0]) (Nat.le_refl _) (by decide) (by decide) rfl)
  have GA := Lib.hid ((G.refl w).alloc (.cells #[.string ⟨#[]⟩, .int .i64 0, .int .i64 0, .int .i64 0] 26))
  have K := Lib.hid (fun (W : World) => l20Read_any s hs W)
  unfold rfE at K
  obtain ⟨R, HRR⟩ : ∃ R, Hid (rfR s = R) := ⟨_, rfl⟩
  rw [HRR.out] at K ⊢
  obtain ⟨RL, rb⟩ := R
  obtain ⟨n1, n2, n3, n4⟩ := RL
  have H := Lib.hid (rfl : (0 : Nat) = 0)
  clear hs HRR
  go_enter Tryd.func9, Tryd.ntmps9
  go_wp2_with (go_at_call 16; (with_reducible refine (K.out _).mono ?_); rintro e w1 ⟨rfl, g1⟩; have G1 := Lib.hid (GA.out.trans g1); have OQ1 := Lib.hid (own_G OQ0.out g1); clear g1; have hcq0 := own_cellAt_mid OQ1.out (j := 0) rfl; have hyq0 := own_frozen_of OQ1.out 0; have hcq1 := own_cellAt_mid OQ1.out (j := 1) rfl; have hyq1 := own_frozen_of OQ1.out 1; have hcq2 := own_cellAt_mid OQ1.out (j := 2) rfl; have hyq2 := own_frozen_of OQ1.out 2; have hcq3 := own_cellAt_mid OQ1.out (j := 3) rfl; have hyq3 := own_frozen_of OQ1.out 3)
  clear hcq0 hyq0 hcq1 hyq1 hcq2 hyq2 hcq3 hyq3
  have S0 := Lib.hid (OQ1.out.stored 0 (.string n1))
  have S1 := Lib.hid (S0.out.1.stored 1 (.int .i64 n2))
  have S2 := Lib.hid (S1.out.1.stored 2 (.int .i64 n3))
  have S3 := Lib.hid (S2.out.1.stored 3 (.int .i64 n4))
  have k0 := own_cellAt_mid S3.out.1 (j := 0) rfl
  have k1 := own_cellAt_mid S3.out.1 (j := 1) rfl
  have k2 := own_cellAt_mid S3.out.1 (j := 2) rfl
  have k3 := own_cellAt_mid S3.out.1 (j := 3) rfl
  exact bodyPost_ret (v := .tuple #[.agg #[.string n1, .int .i64 n2, .int .i64 n3, .int .i64 n4], .bool rb]) (by simp [results, Tryd.results9, go_sem, k0, k1, k2, k3]) rfl ⟨rfl, Gx.G G1.out (Gx.trans (Gx.trans (Gx.trans S0.out.2 S1.out.2) S2.out.2) S3.out.2) (by intro i hi; cases hi; exact Nat.le_refl _)⟩

theorem rd_three (w : World) (a b c : ByteArray) (T : Nat) : Rd (w.alloc (.cells #[.string a, .string b, .string c] T)) (some ⟨w.heap.size, 0, none⟩) 1 sv [a, b, c] := rd_lst w [a, b, c] T
attribute [local go_sem ↓] Go.wp_at_zero Go.wp_at_succ
set_option maxRecDepth 20000 in
set_option maxHeartbeats 8000000 in
theorem iReadFixture_any (s : ByteArray) (w : World) (hs : s.size ≤ 1048576) (hE : Env w) :
    Calls Tryd.prog 10 #[.string s] w (rfE w (rfR s)) := by
  unfold rfE
  have OQ0 := Lib.hid (own_new (w := w) (base := w.heap.size) (n := 1) (cap := 1) (size := 4) (e := 26) (cur := #[.string ⟨#[]⟩, .int .i64 0, .int .i64 0, .int .i64 0]) (Nat.le_refl _) (by decide) (by decide) rfl)
  have GA := Lib.hid ((G.refl w).alloc (.cells #[.string ⟨#[]⟩, .int .i64 0, .int .i64 0, .int .i64 0] 26))
  have HE := Lib.hid hE
  have KC := Lib.hid (fun (t : ByteArray) (ht : t.size ≤ 1048576) (c : UInt8) (W : World) (g : G w W) => show Calls Tryd.prog 17 #[.string t, .string ⟨#[c]⟩] W fun e w' => (∃ f, e = .returned (.tuple #[.string (cutA c t), .string (cutB c t), .bool f])) ∧ G W w' by
    obtain ⟨m, hm⟩ := (HE.out.G g).most
    exact (Tryd.strings_Cut t ⟨#[c]⟩ m W (by omega) hm).mono fun e w' ⟨he, n, hw⟩ => ⟨⟨_, he⟩, by rw [hw]; exact (G.refl W).drewN n⟩)
  obtain ⟨nm, C1⟩ : ∃ x, Hid (cutA 32 s = x) := ⟨_, rfl⟩
  obtain ⟨y, C2⟩ : ∃ x, Hid (cutB 32 s = x) := ⟨_, rfl⟩
  have hc1 := cut_size 32 s
  rw [C1.out, C2.out] at hc1
  obtain ⟨u, C3⟩ : ∃ x, Hid (cutA 46 y = x) := ⟨_, rfl⟩
  obtain ⟨z, C4⟩ : ∃ x, Hid (cutB 46 y = x) := ⟨_, rfl⟩
  have hc2 := cut_size 46 y
  rw [C3.out, C4.out] at hc2
  obtain ⟨a, C5⟩ : ∃ x, Hid (cutA 43 z = x) := ⟨_, rfl⟩
  obtain ⟨b, C6⟩ : ∃ x, Hid (cutB 43 z = x) := ⟨_, rfl⟩
  have hc3 := cut_size 43 z
  rw [C5.out, C6.out] at hc3
  have K1 := Lib.hid (fun (W : World) (g : G w W) => KC.out s (by omega) 32 W g)
  have K2 := Lib.hid (fun (W : World) (g : G w W) => KC.out y (by omega) 46 W g)
  have K3 := Lib.hid (fun (W : World) (g : G w W) => KC.out z (by omega) 43 W g)
  rw [C1.out, C2.out] at K1
  rw [C3.out, C4.out] at K2
  rw [C5.out, C6.out] at K3
  have HE2 := Lib.hid (rf_cut s C1.out C2.out C3.out C4.out C5.out C6.out)
  have hwf : nm.size ≤ maxLen := by unfold maxLen; omega
  have KN := Lib.hid (fun (W : World) (gg : G w W) => readNumbers_any (some ⟨W.heap.size, 0, none⟩) 3 3 [u, a, b] (W.alloc (.cells #[.string u, .string a, .string b] 9)) (rd_three W u a b _) rfl (by omega) (fun x hx => by
    simp only [List.mem_cons, List.mem_nil_iff, or_false] at hx
    rcases hx with rfl | rfl | rfl <;> omega) (HE.out.G (gg.trans ((G.refl W).alloc _))))
  have HNR := Lib.hid (show numsR [u, a, b] = if okN u = true ∧ okN a = true ∧ okN b = true then ([valN u, valN a, valN b], true) else ([], false) by
    unfold numsR
    simp [List.all_cons])
  obtain ⟨R, HRR⟩ : ∃ R, Hid (rfR s = R) := ⟨_, rfl⟩
  rw [HRR.out] at HE2 ⊢
  clear hE KC C1 C2 C3 C4 C5 C6
  by_cases hok : okN u = true ∧ okN a = true ∧ okN b = true
  case neg =>
    have H := Lib.hid (show R = (fxZ, false) by rw [HE2.out, if_neg (fun h => hok ⟨h.1, h.2.1, h.2.2.1⟩)])
    rw [if_neg hok] at HNR
    rw [HNR.out] at KN
    clear hok
    go_enter Tryd.func10, Tryd.ntmps10
    go_wp2_with (first | (go_at_call 17; (with_reducible refine (K1.out _ GA.out).mono ?_); rintro e w1 ⟨⟨f1, rfl⟩, g1⟩; have G1 := Lib.hid (GA.out.trans g1); have OQ1 := Lib.hid (own_G OQ0.out g1); clear g1) | (go_at_call 17; (with_reducible refine (K2.out _ G1.out).mono ?_); rintro e w2 ⟨⟨f2, rfl⟩, g2⟩; have G2 := Lib.hid (G1.out.trans g2); have OQ2 := Lib.hid (own_G OQ1.out g2); clear g2) | (go_at_call 17; (with_reducible refine (K3.out _ G2.out).mono ?_); rintro e w3 ⟨⟨f3, rfl⟩, g3⟩; have G3 := Lib.hid (G2.out.trans g3); have OQ3 := Lib.hid (own_G OQ2.out g3); clear g3) | (go_at_call 18; (with_reducible refine (KN.out _ G3.out).mono ?_); rintro e w4 ⟨A4, c4, rfl, g4, o4⟩; have GN := Lib.hid (((G.refl w3).alloc (.cells #[.string u, .string a, .string b] 9)).trans g4); have G4 := Lib.hid (G3.out.trans GN.out); have OQ4 := Lib.hid (own_G OQ3.out GN.out); clear o4 g4; have hcq0 := own_cellAt_mid OQ4.out (j := 0) rfl; have hyq0 := own_frozen_of OQ4.out 0; have hcq1 := own_cellAt_mid OQ4.out (j := 1) rfl; have hyq1 := own_frozen_of OQ4.out 1; have hcq2 := own_cellAt_mid OQ4.out (j := 2) rfl; have hyq2 := own_frozen_of OQ4.out 2; have hcq3 := own_cellAt_mid OQ4.out (j := 3) rfl; have hyq3 := own_frozen_of OQ4.out 3))
    clear hcq0 hyq0 hcq1 hyq1 hcq2 hyq2 hcq3 hyq3
    have S0 := Lib.hid (OQ4.out.stored 0 (.string ⟨#[]⟩))
    have S1 := Lib.hid (S0.out.1.stored 1 (.int .i64 0))
    have S2 := Lib.hid (S1.out.1.stored 2 (.int .i64 0))
    have S3 := Lib.hid (S2.out.1.stored 3 (.int .i64 0))
    have k0 := own_cellAt_mid S3.out.1 (j := 0) rfl
    have k1 := own_cellAt_mid S3.out.1 (j := 1) rfl
    have k2 := own_cellAt_mid S3.out.1 (j := 2) rfl
    have k3 := own_cellAt_mid S3.out.1 (j := 3) rfl
    exact bodyPost_ret (v := .tuple #[.agg #[.string ⟨#[]⟩, .int .i64 0, .int .i64 0, .int .i64 0], .bool false]) (by simp [results, Tryd.results10, go_sem, k0, k1, k2, k3]) rfl ⟨by rw [H.out] <;> rfl, Gx.G G4.out (Gx.trans (Gx.trans (Gx.trans S0.out.2 S1.out.2) S2.out.2) S3.out.2) (by intro i hi; cases hi; exact Nat.le_refl _)⟩
  rw [if_pos hok] at HNR
  rw [HNR.out] at KN
  obtain ⟨nu, HNU⟩ : ∃ x, Hid (valN u = x) := ⟨_, rfl⟩
  obtain ⟨na, HNA⟩ : ∃ x, Hid (valN a = x) := ⟨_, rfl⟩
  obtain ⟨nb, HNB⟩ : ∃ x, Hid (valN b = x) := ⟨_, rfl⟩
  rw [HNU.out, HNA.out, HNB.out] at KN HE2
  have KV := Lib.hid (fun (W : World) => ValidFixture_any ⟨nm, nu, na, nb⟩ W hwf)
  have KT := Lib.hid (fun (W : World) (gg : G w W) => iFixtureText_any ⟨nm, nu, na, nb⟩ W hwf (HE.out.G gg).tab)
  have HOK := Lib.hid hok
  clear hok HNR
  go_enter Tryd.func10, Tryd.ntmps10
  go_wp2_with (first | (go_at_call 17; (with_reducible refine (K1.out _ GA.out).mono ?_); rintro e w1 ⟨⟨f1, rfl⟩, g1⟩; have G1 := Lib.hid (GA.out.trans g1); have OQ1 := Lib.hid (own_G OQ0.out g1); clear g1) | (go_at_call 17; (with_reducible refine (K2.out _ G1.out).mono ?_); rintro e w2 ⟨⟨f2, rfl⟩, g2⟩; have G2 := Lib.hid (G1.out.trans g2); have OQ2 := Lib.hid (own_G OQ1.out g2); clear g2) | (go_at_call 17; (with_reducible refine (K3.out _ G2.out).mono ?_); rintro e w3 ⟨⟨f3, rfl⟩, g3⟩; have G3 := Lib.hid (G2.out.trans g3); have OQ3 := Lib.hid (own_G OQ2.out g3); clear g3) | (go_at_call 18; (with_reducible refine (KN.out _ G3.out).mono ?_); rintro e w4 ⟨A4, c4, rfl, g4, o4⟩; have GN := Lib.hid (((G.refl w3).alloc (.cells #[.string u, .string a, .string b] 9)).trans g4); have G4 := Lib.hid (G3.out.trans GN.out); have OQ4 := Lib.hid (own_G OQ3.out GN.out); obtain ⟨gN, rfl⟩ := own_head o4 (by simp); have hn0 := own_cellAt_mid o4 (j := 0) (u := .int .i64 nu) rfl; have hn1 := own_cellAt_mid o4 (j := 1) (u := .int .i64 na) rfl; have hn2 := own_cellAt_mid o4 (j := 2) (u := .int .i64 nb) rfl; clear o4 g4; simp only [List.length_cons, List.length_nil]))
  go_region_held3 (fun w' => w'.cell? ⟨gN, 0, none⟩ = some (.int .i64 nu) ∧ w'.cell? ⟨gN, 1, none⟩ = some (.int .i64 na) ∧ w'.cell? ⟨gN, 2, none⟩ = some (.int .i64 nb)) (first | go_keep) (fail)
  clear hn0 hn1 hn2
  obtain ⟨wx, HWX⟩ : ∃ wx, Hid ((w4.alloc (.cells #[.string nm, .int .i64 nu, .int .i64 na, .int .i64 nb] 26)).drew = wx) := ⟨_, rfl⟩
  have GX := Lib.hid (show G w4 wx by rw [← HWX.out]; exact ((G.refl w4).alloc _).drew)
  have OX := Lib.hid (own_G OQ4.out GX.out)
  have G5 := Lib.hid (G4.out.trans GX.out)
  have CB0 := Lib.hid (show wx.cell? ⟨w4.heap.size, 0, none⟩ = some (.string nm) by rw [← HWX.out]; exact World.cell?_alloc_at _ _ _ _ rfl)
  have hcb0 := CB0.out
  have CB1 := Lib.hid (show wx.cell? ⟨w4.heap.size, 1, none⟩ = some (.int .i64 nu) by rw [← HWX.out]; exact World.cell?_alloc_at _ _ _ _ rfl)
  have hcb1 := CB1.out
  have CB2 := Lib.hid (show wx.cell? ⟨w4.heap.size, 2, none⟩ = some (.int .i64 na) by rw [← HWX.out]; exact World.cell?_alloc_at _ _ _ _ rfl)
  have hcb2 := CB2.out
  have CB3 := Lib.hid (show wx.cell? ⟨w4.heap.size, 3, none⟩ = some (.int .i64 nb) by rw [← HWX.out]; exact World.cell?_alloc_at _ _ _ _ rfl)
  have hcb3 := CB3.out
  rw [HWX.out]
  cases hv : vfB ⟨nm, nu, na, nb⟩
  · have H := Lib.hid (show R = (fxZ, false) by rw [HE2.out, if_neg (by rw [hv]; simp)])
    rw [hv] at KV
    clear hv
    go_wp2_with (go_at_call 14; (with_reducible refine (KV.out _).mono ?_); rintro e w6 ⟨rfl, g6⟩; have G6 := Lib.hid (G5.out.trans g6); have OQ6 := Lib.hid (own_G OX.out g6); have GX6 := Lib.hid g6; clear hcb0 hcb1 hcb2 hcb3; have hcq0 := own_cellAt_mid OQ6.out (j := 0) rfl; have hyq0 := own_frozen_of OQ6.out 0; have hcq1 := own_cellAt_mid OQ6.out (j := 1) rfl; have hyq1 := own_frozen_of OQ6.out 1; have hcq2 := own_cellAt_mid OQ6.out (j := 2) rfl; have hyq2 := own_frozen_of OQ6.out 2; have hcq3 := own_cellAt_mid OQ6.out (j := 3) rfl; have hyq3 := own_frozen_of OQ6.out 3; clear g6)
    clear hcq0 hyq0 hcq1 hyq1 hcq2 hyq2 hcq3 hyq3
    have S0 := Lib.hid (OQ6.out.stored 0 (.string ⟨#[]⟩))
    have S1 := Lib.hid (S0.out.1.stored 1 (.int .i64 0))
    have S2 := Lib.hid (S1.out.1.stored 2 (.int .i64 0))
    have S3 := Lib.hid (S2.out.1.stored 3 (.int .i64 0))
    have k0 := own_cellAt_mid S3.out.1 (j := 0) rfl
    have k1 := own_cellAt_mid S3.out.1 (j := 1) rfl
    have k2 := own_cellAt_mid S3.out.1 (j := 2) rfl
    have k3 := own_cellAt_mid S3.out.1 (j := 3) rfl
    exact bodyPost_ret (v := .tuple #[.agg #[.string ⟨#[]⟩, .int .i64 0, .int .i64 0, .int .i64 0], .bool false]) (by simp [results, Tryd.results10, go_sem, k0, k1, k2, k3]) rfl ⟨by rw [H.out] <;> rfl, Gx.G G6.out (Gx.trans (Gx.trans (Gx.trans S0.out.2 S1.out.2) S2.out.2) S3.out.2) (by intro i hi; cases hi; exact Nat.le_refl _)⟩
  have HT := Lib.hid (show fixTx ⟨nm, nu, na, nb⟩ = fixT ⟨nm, nu, na, nb⟩ by unfold fixTx; rw [if_pos hv])
  rw [HT.out] at KT
  rw [hv] at KV
  by_cases he : fixT ⟨nm, nu, na, nb⟩ = s
  · have H := Lib.hid (show R = (⟨nm, nu, na, nb⟩, true) by rw [HE2.out, if_pos ⟨HOK.out.1, HOK.out.2.1, HOK.out.2.2, hv, he⟩])
    rw [he] at KT
    have hes : (s.toList == s.toList) = true := by simp
    clear hv he
    go_wp2_with (first | (go_at_call 14; (with_reducible refine (KV.out _).mono ?_); rintro e w6 ⟨rfl, g6⟩; have G6 := Lib.hid (G5.out.trans g6); have OQ6 := Lib.hid (own_G OX.out g6); have GX6 := Lib.hid g6; clear hcb0 hcb1 hcb2 hcb3; have hcb0 := g6.cell CB0.out; have hcb1 := g6.cell CB1.out; have hcb2 := g6.cell CB2.out; have hcb3 := g6.cell CB3.out; clear g6) | (go_at_call 8; (with_reducible refine (KT.out _ G6.out).mono ?_); rintro e w7 ⟨rfl, g7⟩; have G7 := Lib.hid (G6.out.trans g7); have OQ7 := Lib.hid (own_G OQ6.out g7); clear hcb0 hcb1 hcb2 hcb3; have hcb0 := g7.cell (GX6.out.cell CB0.out); have hcb1 := g7.cell (GX6.out.cell CB1.out); have hcb2 := g7.cell (GX6.out.cell CB2.out); have hcb3 := g7.cell (GX6.out.cell CB3.out); clear g7; have hcq0 := own_cellAt_mid OQ7.out (j := 0) rfl; have hyq0 := own_frozen_of OQ7.out 0; have hcq1 := own_cellAt_mid OQ7.out (j := 1) rfl; have hyq1 := own_frozen_of OQ7.out 1; have hcq2 := own_cellAt_mid OQ7.out (j := 2) rfl; have hyq2 := own_frozen_of OQ7.out 2; have hcq3 := own_cellAt_mid OQ7.out (j := 3) rfl; have hyq3 := own_frozen_of OQ7.out 3))
    clear hcb0 hcb1 hcb2 hcb3
    clear hcq0 hyq0 hcq1 hyq1 hcq2 hyq2 hcq3 hyq3
    have S0 := Lib.hid (OQ7.out.stored 0 (.string nm))
    have S1 := Lib.hid (S0.out.1.stored 1 (.int .i64 nu))
    have S2 := Lib.hid (S1.out.1.stored 2 (.int .i64 na))
    have S3 := Lib.hid (S2.out.1.stored 3 (.int .i64 nb))
    have k0 := own_cellAt_mid S3.out.1 (j := 0) rfl
    have k1 := own_cellAt_mid S3.out.1 (j := 1) rfl
    have k2 := own_cellAt_mid S3.out.1 (j := 2) rfl
    have k3 := own_cellAt_mid S3.out.1 (j := 3) rfl
    exact bodyPost_ret (v := .tuple #[.agg #[.string nm, .int .i64 nu, .int .i64 na, .int .i64 nb], .bool true]) (by simp [results, Tryd.results10, go_sem, k0, k1, k2, k3]) rfl ⟨by rw [H.out] <;> rfl, Gx.G G7.out (Gx.trans (Gx.trans (Gx.trans S0.out.2 S1.out.2) S2.out.2) S3.out.2) (by intro i hi; cases hi; exact Nat.le_refl _)⟩
  · have H := Lib.hid (show R = (fxZ, false) by rw [HE2.out, if_neg (fun h => he h.2.2.2.2)])
    have hes : ((fixT ⟨nm, nu, na, nb⟩).toList == s.toList) = false := by
      simp only [beq_eq_false_iff_ne, ne_eq]
      exact fun e => he (by rw [ByteArray.toList_eq, ByteArray.toList_eq] at e; rw [← mkB_of (fixT ⟨nm, nu, na, nb⟩), e, mkB_of])
    obtain ⟨t, HTT⟩ : ∃ t, Hid (fixT ⟨nm, nu, na, nb⟩ = t) := ⟨_, rfl⟩
    rw [HTT.out] at KT hes
    clear hv he
    go_wp2_with (first | (go_at_call 14; (with_reducible refine (KV.out _).mono ?_); rintro e w6 ⟨rfl, g6⟩; have G6 := Lib.hid (G5.out.trans g6); have OQ6 := Lib.hid (own_G OX.out g6); have GX6 := Lib.hid g6; clear hcb0 hcb1 hcb2 hcb3; have hcb0 := g6.cell CB0.out; have hcb1 := g6.cell CB1.out; have hcb2 := g6.cell CB2.out; have hcb3 := g6.cell CB3.out; clear g6) | (go_at_call 8; (with_reducible refine (KT.out _ G6.out).mono ?_); rintro e w7 ⟨rfl, g7⟩; have G7 := Lib.hid (G6.out.trans g7); have OQ7 := Lib.hid (own_G OQ6.out g7); clear hcb0 hcb1 hcb2 hcb3; clear g7; have hcq0 := own_cellAt_mid OQ7.out (j := 0) rfl; have hyq0 := own_frozen_of OQ7.out 0; have hcq1 := own_cellAt_mid OQ7.out (j := 1) rfl; have hyq1 := own_frozen_of OQ7.out 1; have hcq2 := own_cellAt_mid OQ7.out (j := 2) rfl; have hyq2 := own_frozen_of OQ7.out 2; have hcq3 := own_cellAt_mid OQ7.out (j := 3) rfl; have hyq3 := own_frozen_of OQ7.out 3))
    clear hcq0 hyq0 hcq1 hyq1 hcq2 hyq2 hcq3 hyq3
    have S0 := Lib.hid (OQ7.out.stored 0 (.string ⟨#[]⟩))
    have S1 := Lib.hid (S0.out.1.stored 1 (.int .i64 0))
    have S2 := Lib.hid (S1.out.1.stored 2 (.int .i64 0))
    have S3 := Lib.hid (S2.out.1.stored 3 (.int .i64 0))
    have k0 := own_cellAt_mid S3.out.1 (j := 0) rfl
    have k1 := own_cellAt_mid S3.out.1 (j := 1) rfl
    have k2 := own_cellAt_mid S3.out.1 (j := 2) rfl
    have k3 := own_cellAt_mid S3.out.1 (j := 3) rfl
    exact bodyPost_ret (v := .tuple #[.agg #[.string ⟨#[]⟩, .int .i64 0, .int .i64 0, .int .i64 0], .bool false]) (by simp [results, Tryd.results10, go_sem, k0, k1, k2, k3]) rfl ⟨by rw [H.out] <;> rfl, Gx.G G7.out (Gx.trans (Gx.trans (Gx.trans S0.out.2 S1.out.2) S2.out.2) S3.out.2) (by intro i hi; cases hi; exact Nat.le_refl _)⟩
end Go.Proofs.YtckenipmebeopaaDoor
