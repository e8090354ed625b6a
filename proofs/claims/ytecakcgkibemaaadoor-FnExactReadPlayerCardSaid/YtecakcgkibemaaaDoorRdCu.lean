/-
  Walks: a cue read from a text, by the reference.
-/
import Derived.Test.YtecakcgkibemaaaDoorCuM
import Derived.Test.YtecakcgkibemaaaDoorTxt
import Derived.Deep.RegionHeld3
import Derived.Deep.DrawnRows
namespace Go.Proofs.YtecakcgkibemaaaDoor
open Go.RowKit

def rcuE (w : World) (R : SCue × Bool) (e : Ending) (w' : World) : Prop := e = .returned (.tuple #[.agg #[.string R.1.Id, .int .i64 R.1.Time, .int .i64 R.1.Length, .string R.1.Target, .int .i64 R.1.Action, .int .i64 R.1.Value], .bool R.2]) ∧ G w w'
theorem four_of {P : List ByteArray} (h : ¬ P.length < 4) : ∃ i t g a N, P = i :: t :: g :: a :: N := by
  rcases P with _ | ⟨a, _ | ⟨b, _ | ⟨c, _ | ⟨d, r⟩⟩⟩⟩
  · simp at h
  · simp at h
  · simp at h
  · simp at h
  · exact ⟨a, b, c, d, r, rfl⟩
theorem tail_step {P : List ByteArray} {j : Nat} {y : ByteArray} (hy : P[j]? = some y) (h4 : 4 ≤ j) : (P.take (j + 1)).drop 4 = (P.take j).drop 4 ++ [y] := by
  have hj : j < P.length := by
    rcases Nat.lt_or_ge j P.length with h | h
    · exact h
    · rw [List.getElem?_eq_none h] at hy; cases hy
  rw [List.take_add_one, hy, Option.toList_some, List.drop_append_of_le_length (by rw [List.length_take]; omega)]
theorem iv_at {L : List Int} {k : Nat} {x : Int} (h : L[k]? = some x) : (L.flatMap iv)[k]? = some (.int .i64 x) := by
  have e : L.flatMap iv = L.map (Value.int .i64) := by
    clear h
    induction L with
    | nil => rfl
    | cons y L ih => rw [List.flatMap_cons, ih]; rfl
  rw [e, List.getElem?_map, h]; rfl
theorem flat_svc (L : List ByteArray) : L.flatMap sv = L.map Value.string := by
  induction L with
  | nil => rfl
  | cons y L ih => rw [List.flatMap_cons, ih]; rfl
theorem iv_ones (x : Int) : ∀ u ∈ iv x, u.oneCell' = true := by
  intro u hu
  simp only [iv, List.mem_singleton] at hu
  subst hu
  rfl
theorem str_yes (l : List UInt8) : ((mkB l).toList == l) = true := by rw [ByteArray.toList_eq, mkB_data]; simp
theorem str_no {s : ByteArray} {l : List UInt8} (h : s ≠ mkB l) : (s.toList == l) = false := by
  simp only [beq_eq_false_iff_ne, ne_eq]
  intro e
  apply h
  rw [← e, ByteArray.toList_eq, mkB_of]

attribute [local go_sem ↓] Go.wp_at_zero Go.wp_at_succ
set_option maxRecDepth 20000 in
set_option maxHeartbeats 16000000 in
theorem l13Read_any (s : ByteArray) (hs : s.size ≤ 1048576) (w : World) :
    Calls Tryd.prog 24 #[.string s] w (rcuE w (rcuR s)) := by
  unfold rcuE
  obtain ⟨i0, hi, hz0, hz1, hz2⟩ := info_parts infoInt64
  have HI := Lib.hid (And.intro hi (And.intro hz0 (And.intro hz1 hz2)))
  clear hi hz0 hz1 hz2
  have OQ0 := Lib.hid (own_new (w := w) (base := w.heap.size) (n := 1) (cap := 1) (size := 6) (e := 45) (cur := #[.string ⟨#[]⟩, .int .i64 0, .int .i64 0, .string ⟨#[]⟩, .int .i64 0, .int .i64 0]) (Nat.le_refl _) (by decide) (by decide) rfl)
  have GA := Lib.hid ((G.refl w).alloc (.cells #[.string ⟨#[]⟩, .int .i64 0, .int .i64 0, .string ⟨#[]⟩, .int .i64 0, .int .i64 0] 45))
  have KS := Lib.hid (fun (W : World) => l01Split_any s 32 32 rfl (by omega) W)
  have HPM := Lib.hid (fun (y : ByteArray) (hy : y ∈ splitS 32 s) => (splitS_mem hy).1)
  have HL1 := Lib.hid (fun (h : (splitS 32 s).length < 4) => cu_lenS h)
  have HEQ := Lib.hid (fun (i t g a : ByteArray) (N : List ByteArray) (h : splitS 32 s = i :: t :: g :: a :: N) => cu_eqS h)
  have hpl := splitS_len 32 s
  obtain ⟨R, HRR⟩ : ∃ R, Hid (rcuR s = R) := ⟨_, rfl⟩
  rw [HRR.out] at HL1 HEQ ⊢
  obtain ⟨P, HP⟩ : ∃ P, Hid (splitS 32 s = P) := ⟨_, rfl⟩
  rw [HP.out] at HPM KS HL1 HEQ hpl
  by_cases l1 : P.length < 4
  · have H := Lib.hid (HL1.out l1)
    obtain ⟨k, Hk⟩ : ∃ k, Hid (P.length = k) := ⟨_, rfl⟩
    rw [Hk.out] at l1
    have hd : (k : Int) < 4 := by omega
    clear hpl
    go_enter Tryd.func24, Tryd.ntmps24
    go_wp2_with (go_at_call 22; (with_reducible refine (KS.out _).mono ?_); rintro e w1 ⟨v1, rfl, o1, g1⟩; obtain ⟨A1, c1, rfl, hc1⟩ := own_sl o1; have G1 := Lib.hid (GA.out.trans g1); have OQ1 := Lib.hid (own_G OQ0.out g1); clear o1 g1; rw [Hk.out]; have hcq0 := own_cellAt_mid OQ1.out (j := 0) rfl; have hcq1 := own_cellAt_mid OQ1.out (j := 1) rfl; have hcq2 := own_cellAt_mid OQ1.out (j := 2) rfl; have hcq3 := own_cellAt_mid OQ1.out (j := 3) rfl; have hcq4 := own_cellAt_mid OQ1.out (j := 4) rfl; have hcq5 := own_cellAt_mid OQ1.out (j := 5) rfl; have hyq0 := own_frozen_of OQ1.out 0; have hyq1 := own_frozen_of OQ1.out 1; have hyq2 := own_frozen_of OQ1.out 2; have hyq3 := own_frozen_of OQ1.out 3; have hyq4 := own_frozen_of OQ1.out 4; have hyq5 := own_frozen_of OQ1.out 5)
    clear hcq0 hcq1 hcq2 hcq3 hcq4 hcq5 hyq0 hyq1 hyq2 hyq3 hyq4 hyq5
    have S0 := Lib.hid (OQ1.out.stored 0 (.string ⟨#[]⟩))
    have S1 := Lib.hid (S0.out.1.stored 1 (.int .i64 0))
    have S2 := Lib.hid (S1.out.1.stored 2 (.int .i64 0))
    have S3 := Lib.hid (S2.out.1.stored 3 (.string ⟨#[]⟩))
    have S4 := Lib.hid (S3.out.1.stored 4 (.int .i64 0))
    have S5 := Lib.hid (S4.out.1.stored 5 (.int .i64 0))
    have k0 := own_cellAt_mid S5.out.1 (j := 0) rfl
    have k1 := own_cellAt_mid S5.out.1 (j := 1) rfl
    have k2 := own_cellAt_mid S5.out.1 (j := 2) rfl
    have k3 := own_cellAt_mid S5.out.1 (j := 3) rfl
    have k4 := own_cellAt_mid S5.out.1 (j := 4) rfl
    have k5 := own_cellAt_mid S5.out.1 (j := 5) rfl
    exact bodyPost_ret (v := .tuple #[.agg #[.string ⟨#[]⟩, .int .i64 0, .int .i64 0, .string ⟨#[]⟩, .int .i64 0, .int .i64 0], .bool false]) (by simp [results, Tryd.results24, go_sem, k0, k1, k2, k3, k4, k5]) rfl ⟨by rw [H.out] <;> rfl, Gx.G G1.out (Gx.trans (Gx.trans (Gx.trans (Gx.trans (Gx.trans S0.out.2 S1.out.2) S2.out.2) S3.out.2) S4.out.2) S5.out.2) (by intro i hi; cases hi; exact Nat.le_refl _)⟩
  obtain ⟨i, t, g, a, N, hP⟩ := four_of l1
  have HE := Lib.hid (HEQ.out i t g a N hP)
  obtain ⟨n, Hn⟩ : ∃ n, Hid (P.length = n) := ⟨_, rfl⟩
  have hNn : n = N.length + 4 := by rw [← Hn.out, hP]; simp
  have HP0 := Lib.hid (show P[0]? = some i by rw [hP]; rfl)
  have HP1 := Lib.hid (show P[1]? = some t by rw [hP]; rfl)
  have HP2 := Lib.hid (show P[2]? = some g by rw [hP]; rfl)
  have HP3 := Lib.hid (show P[3]? = some a by rw [hP]; rfl)
  have HN := Lib.hid (show P.drop 4 = N by rw [hP]; rfl)
  have hsi := HPM.out i (by rw [hP]; simp)
  have hst := HPM.out t (by rw [hP]; simp)
  have hsg := HPM.out g (by rw [hP]; simp)
  have hml : maxLen = 9223372036854775807 := rfl
  have KT := Lib.hid (fun (W : World) => l01Number_any t (by omega) W)
  have HTB := Lib.hid (valN_bd t)
  obtain ⟨tv, HTV⟩ : ∃ x, Hid (valN t = x) := ⟨_, rfl⟩
  obtain ⟨tb, HTO⟩ : ∃ x, Hid (okN t = x) := ⟨_, rfl⟩
  rw [HTV.out, HTO.out] at KT HE
  rw [Hn.out] at hpl
  have HNL := Lib.hid hNn
  have KO := Lib.hid (fun (x : SCue) (hw : WfCue x) (b : Nat) (W : World) (k0 : W.cell? ⟨b, 0, none⟩ = some (.string x.Id)) (k1 : W.cell? ⟨b, 1, none⟩ = some (.int .i64 x.Time)) (k2 : W.cell? ⟨b, 2, none⟩ = some (.int .i64 x.Length)) (k3 : W.cell? ⟨b, 3, none⟩ = some (.string x.Target)) (k4 : W.cell? ⟨b, 4, none⟩ = some (.int .i64 x.Action)) (k5 : W.cell? ⟨b, 5, none⟩ = some (.int .i64 x.Value)) => l13One_any x hw b 0 W k0 k1 k2 k3 k4 k5)
  have hn4 : 4 ≤ n := by omega
  have hlt0 : ¬ ((n : Int) < 4) := by omega
  have hx0 : 0 < n := by omega
  have hX0 : (0 : Int) < (n : Int) := by omega
  have hx1 : 1 < n := by omega
  have hX1 : (1 : Int) < (n : Int) := by omega
  have hx2 : 2 < n := by omega
  have hX2 : (2 : Int) < (n : Int) := by omega
  have hx3 : 3 < n := by omega
  have hX3 : (3 : Int) < (n : Int) := by omega
  clear hP l1 HL1 HEQ hNn
  go_enter Tryd.func24, Tryd.ntmps24
  go_wp2_with (first | (go_at_call 22; (with_reducible refine (KS.out _).mono ?_); rintro e w1 ⟨v1, rfl, o1, g1⟩; obtain ⟨A1, c1, rfl, hc1⟩ := own_sl o1; obtain ⟨gW, rfl⟩ := own_head o1 (by rw [Hn.out]; omega); have G1 := Lib.hid (GA.out.trans g1); have OQ1 := Lib.hid (own_G OQ0.out g1); have OP1 := Lib.hid o1; have h0 := own_cellAt_mid o1 (j := 0) (u := .string i) (by rw [flat_svc, List.getElem?_map, HP0.out]; rfl); have h1 := own_cellAt_mid o1 (j := 1) (u := .string t) (by rw [flat_svc, List.getElem?_map, HP1.out]; rfl); have h2 := own_cellAt_mid o1 (j := 2) (u := .string g) (by rw [flat_svc, List.getElem?_map, HP2.out]; rfl); have hgW := (o1.lt gW rfl); have HH0 := Lib.hid h0; have HH2 := Lib.hid h2; rw [Hn.out] at OP1; clear o1 g1 hc1; rw [Hn.out]) | (go_at_call 23; (with_reducible refine (KT.out _).mono ?_); rintro e w2 ⟨rfl, g2⟩; have G2 := Lib.hid (G1.out.trans g2); have OQ2 := Lib.hid (own_G OQ1.out g2); have OP2 := Lib.hid (own_G OP1.out g2); have hh0 := g2.cell HH0.out; have hh2 := g2.cell HH2.out; have hs2 : w1.heap.size ≤ w2.heap.size := g2.size; clear g2 h0 h1 h2))
  have hsz0 : (w.alloc (.cells #[.string ⟨#[]⟩, .int .i64 0, .int .i64 0, .string ⟨#[]⟩, .int .i64 0, .int .i64 0] 45)).heap.size = w.heap.size + 1 := by simp
  rw [hsz0] at hgW OP2
  go_region_held3 (fun w' => w'.cell? ⟨gW, 0, none⟩ = some (.string i) ∧ w'.cell? ⟨gW, 2, none⟩ = some (.string g)) (first | go_keep) (fail)
  clear hh0 hh2
  have OC := Lib.hid (own_new (w := w2) (base := w2.heap.size) (n := 1) (cap := 1) (size := 6) (e := 45) (cur := #[.string i, .int .i64 tv, .int .i64 0, .string g, .int .i64 0, .int .i64 0]) (Nat.le_refl _) (by decide) (by decide) rfl)
  obtain ⟨wx, HWX⟩ : ∃ wx, Hid ((w2.alloc (.cells #[.string i, .int .i64 tv, .int .i64 0, .string g, .int .i64 0, .int .i64 0] 45)).drew = wx) := ⟨_, rfl⟩
  have GX := Lib.hid (show G w2 wx by rw [← HWX.out]; exact ((G.refl w2).alloc _).drew)
  have OCx := Lib.hid (show wx.ownsRow w2.heap.size 45 6 (.slice (some ⟨w2.heap.size, 0, none⟩) 1 1) 1 [.string i, .int .i64 tv, .int .i64 0, .string g, .int .i64 0, .int .i64 0] by rw [← HWX.out]; exact own_G OC.out (G.refl _).drew)
  have hwx : wx.heap.size = w2.heap.size + 1 := by rw [← HWX.out]; simp [World.drew]
  have OM := Lib.hid (World.ownsRow_lit (e := 2) (base := w2.heap.size + 1) (size := 1) wx #[] 0 (by omega) (by unfold maxLen; omega) rfl)
  have gx2 := (G.refl wx).alloc (.cells #[] 2)
  have G3 := Lib.hid ((G2.out.trans GX.out).trans gx2)
  have OC3 := Lib.hid (own_G OCx.out gx2)
  have OQ3 := Lib.hid (own_G (own_G OQ2.out GX.out) gx2)
  have OP3 := Lib.hid (own_G (own_G OP2.out GX.out) gx2)
  have hzq : w.heap.size < w2.heap.size := by omega
  rw [HWX.out]
  clear gx2 OC OCx GX OP2 OQ2 OP1 OQ1 hsz0 HH0 HH2 HP0 HP1 HP2 G1 G2 HWX
  clear KS KT GA OQ0
  obtain ⟨qb, HQB⟩ : ∃ x : Nat, x = w2.heap.size := ⟨_, rfl⟩
  rw [← HQB] at OC3 OM hzq hs2 hwx ⊢
  rw [hwx] at OM
  clear HQB
  go_wp2
  go_loopw [6, 8, 9] (fun ok v jv wr => ∃ j : Nat, 4 ≤ j ∧ j ≤ n ∧ jv = .int .i64 (j : Int) ∧ ok = .bool (tb && ((P.take j).drop 4).all okN) ∧ Hid (wr.ownsRow (qb + 1) 2 1 v (j - 4) ((((P.take j).drop 4).map valN).flatMap iv)) ∧ Hid (wr.ownsRow (w.heap.size + 1) 9 1 (.slice (some ⟨gW, 0, none⟩) n c1) n (P.flatMap sv)) ∧ Hid (wr.ownsRow qb 45 6 (.slice (some ⟨qb, 0, none⟩) 1 1) 1 [.string i, .int .i64 tv, .int .i64 0, .string g, .int .i64 0, .int .i64 0]) ∧ Hid (wr.ownsRow w.heap.size 45 6 (.slice (some ⟨w.heap.size, 0, none⟩) 1 1) 1 [.string ⟨#[]⟩, .int .i64 0, .int .i64 0, .string ⟨#[]⟩, .int .i64 0, .int .i64 0]) ∧ Hid (G w wr)) (fun _ _ jv _ => n - (intOf jv).toNat)
  case atStart =>
    have e4 : (P.take 4).drop 4 = [] := List.drop_of_length_le (by rw [List.length_take]; omega)
    exact ⟨4, Nat.le_refl _, hn4, rfl, by rw [e4]; simp, by rw [e4]; exact OM, OP3, OC3, OQ3, G3⟩
  case round =>
    clear OM OC3 OQ3 OP3 G3
    obtain ⟨j, hj4, hjn, rfl, rfl, HM, HPr, HC, HQ2, G0⟩ := hrel
    have hj0 : (0 : Int) ≤ (j : Int) := by omega
    by_cases hlt : j < n
    · have hlt2 : (j : Int) < (n : Int) := by omega
      obtain ⟨y, hy⟩ : ∃ y, P[j]? = some y := ⟨_, List.getElem?_eq_getElem (by rw [Hn.out]; exact hlt)⟩
      have hcy := own_cellAt_mid HPr.out (j := j) (u := .string y) (by rw [flat_svc, List.getElem?_map, hy]; rfl)
      have hys := HPM.out y (List.mem_of_getElem? hy)
      have KY := Lib.hid (fun (W : World) => l01Number_any y (by omega) W)
      have ST := Lib.hid (tail_step hy hj4)
      obtain ⟨vy, HVY⟩ : ∃ x, Hid (valN y = x) := ⟨_, rfl⟩
      obtain ⟨oy, HOY⟩ : ∃ x, Hid (okN y = x) := ⟨_, rfl⟩
      rw [HVY.out, HOY.out] at KY
      obtain ⟨b, Hb⟩ : ∃ b, Hid ((tb && ((P.take j).drop 4).all okN) = b) := ⟨_, rfl⟩
      have HB2 := Lib.hid (show (tb && ((P.take (j + 1)).drop 4).all okN) = (b && oy) by rw [ST.out, List.all_append, ← Bool.and_assoc, Hb.out]; simp [HOY.out])
      rw [Hb.out]
      clear hy
      cases b
      all_goals
        go_wp2_with (first | (go_at_call 23; (with_reducible refine (KY.out _).mono ?_); rintro e w4 ⟨rfl, g4⟩; have G4 := Lib.hid (G0.out.trans g4); have HM4 := Lib.hid (own_G HM.out g4); have HP4 := Lib.hid (own_G HPr.out g4); have HC4 := Lib.hid (own_G HC.out g4); have HQ4 := Lib.hid (own_G HQ2.out g4); have hs4 := (HC4.out.lt qb rfl).2; clear g4 hcy) | (at_builtin; refine wpList_append_own _ rfl (.tmp 52) (.tmp 54) 56 rfl (qb + 1) 2 i0 (.int .i64 0) 1 8 Tryd.underlying56 HI.out.1 HI.out.2.1 HI.out.2.2.1 HI.out.2.2.2 rfl (by decide) _ (j - 4) _ rfl (HM4.out.alloc _) ⟨w4.heap.size, 0, none⟩ 1 1 (iv vy) rfl rfl (block_news _ (iv vy) _) (iv_ones vy) ?c1 ?c2 ?c3 ?_))
        case c1 => unfold maxLen; omega
        case c2 => omega
        case c3 => simp; omega
        intro v' w5 hown hgrow _
        have gx := (G.refl w4).alloc (.cells (iv vy).toArray 2)
        have O5 := Lib.hid (show w5.ownsRow (qb + 1) 2 1 v' (j + 1 - 4) ((((P.take (j + 1)).drop 4).map valN).flatMap iv) by rw [ST.out, List.map_append, List.flatMap_append, show j + 1 - 4 = j - 4 + 1 by omega]; simpa [HVY.out] using hown)
        have hbk := own_block_of HM4.out
        have G5 := Lib.hid ((G4.out.trans gx).grown hgrow (fun i hi => by have := hbk i hi; omega))
        have P5 := Lib.hid (own_Gx (own_G HP4.out gx) hgrow (.inr (fun e => by have := hbk gW (by rw [← e]; rfl); omega)))
        have C5 := Lib.hid (own_Gx (own_G HC4.out gx) hgrow (.inr (fun e => by have := hbk qb (by rw [← e]; rfl); omega)))
        have Q5 := Lib.hid (own_Gx (own_G HQ4.out gx) hgrow (.inr (fun e => by have := hbk w.heap.size (by rw [← e]; rfl); omega)))
        clear hown hgrow gx hbk
        go_wp2
        go_roundw
        case rel => exact ⟨j + 1, by omega, by omega, by go_num, by rw [HB2.out] <;> rfl, O5, P5, C5, Q5, G5⟩
        case measure => first | (simp [intOf]; done) | (simp [intOf]; omega)
    · obtain rfl : j = n := by omega
      have e1 : (P.take j).drop 4 = N := by rw [List.take_of_length_le (by rw [Hn.out]; exact Nat.le_refl _)]; exact HN.out
      rw [e1] at HM ⊢
      have hm4 : j - 4 = N.length := by have := HNL.out; omega
      rw [hm4] at HM
      obtain ⟨b, Hb⟩ : ∃ b, Hid ((tb && N.all okN) = b) := ⟨_, rfl⟩
      rw [Hb.out]
      have hpa := own_cellAt_mid HPr.out (j := 3) (u := .string a) (by rw [flat_svc, List.getElem?_map, HP3.out]; rfl)
      have HLV := Lib.hid (fun (k : Nat) (hk : k < N.length) => (show ∃ v, (N.map valN)[k]? = some v from ⟨_, List.getElem?_eq_getElem (by simpa using hk)⟩))
      have HBD := Lib.hid (fun (k : Nat) (v : Int) (h : (N.map valN)[k]? = some v) => iv_at h)
      have HBAD := Lib.hid (fun (h : b = false) => (show R = (cuZ, false) by rw [HE.out, if_neg (fun k => by rw [← Hb.out, k.1, k.2.1] at h; cases h)]))
      have HBAD0 := Lib.hid (fun (h : cuK a N.length = 0) => (show R = (cuZ, false) by
        rw [HE.out, if_neg]
        rintro ⟨-, -, k⟩
        have := vcuB_act k
        rw [cuMk_act, h] at this
        omega))
      have HGOOD := Lib.hid (fun (x : SCue) (hx : cuMk i tv g (cuK a N.length) (N.map valN) = x) (h : b = true) => (show R = if vcuB x = true then (x, true) else (cuZ, false) by
        have hq : tb = true ∧ N.all okN = true := by rw [← Hb.out] at h; simpa using h
        rw [HE.out, hx]
        by_cases hv : vcuB x = true
        · rw [if_pos ⟨hq.1, hq.2, hv⟩, if_pos hv]
        · rw [if_neg (fun k => hv k.2.2), if_neg hv]))
      obtain ⟨VL, HVL⟩ : ∃ x, Hid (N.map valN = x) := ⟨_, rfl⟩
      have HMK := Lib.hid (fun (k : Int) => (rfl : cuMk i tv g k (N.map valN) = cuMk i tv g k (N.map valN)))
      clear HMK
      rw [HVL.out] at HM HLV HBD HGOOD
      obtain ⟨m, Hm⟩ : ∃ m, Hid (N.length = m) := ⟨_, rfl⟩
      have HCK := Lib.hid (show cuK a N.length = cuK a m by rw [Hm.out])
      rw [Hm.out] at HM HLV HBAD0 HGOOD
      have hmb : m ≤ 1048576 := by rw [← Hm.out]; omega
      obtain ⟨A0, c0, rfl, hc0⟩ := own_sl HM.out
      have hz := HC.out.lt qb rfl
      clear hlt hm4 e1 HPM HN HE
      have u1 : mkB wFade ≠ mkB wSet := fun e => by have := mkB_inj e; exact absurd this (by decide)
      have u2 : mkB wStop ≠ mkB wSet := fun e => by have := mkB_inj e; exact absurd this (by decide)
      have u3 : mkB wStop ≠ mkB wFade := fun e => by have := mkB_inj e; exact absurd this (by decide)
      have U := Lib.hid (And.intro u1 (And.intro u2 u3))
      clear u1 u2 u3
      by_cases a1 : a = mkB wSet
      · have f1 : (a.toList == [115, 101, 116]) = true := by rw [a1]; exact str_yes _
        have f2 : (a.toList == [102, 97, 100, 101]) = false := str_no (by rw [a1]; exact fun e => U.out.1 e.symm)
        have f3 : (a.toList == [115, 116, 111, 112]) = false := str_no (by rw [a1]; exact fun e => U.out.2.1 e.symm)
        by_cases m1 : m = 1
        · have HK := Lib.hid (show cuK a m = 1 by unfold cuK; rw [if_pos ⟨a1, m1⟩])
          clear a1
          subst m1
          obtain ⟨v0, hv0⟩ := HLV.out 0 (by omega)
          obtain ⟨gM, rfl⟩ := own_head HM.out (by omega)
          have hgM := (HM.out.lt gM rfl).1
          have hm0 := own_cellAt_mid HM.out (j := 0) (HBD.out 0 v0 hv0)
          have HX := Lib.hid (show cuMk i tv g (cuK a 1) VL = (⟨i, tv, 0, g, 1, v0⟩ : SCue) by rw [HK.out]; unfold cuMk; rw [if_neg (by decide), if_pos (by decide)]; simp only [List.getD_eq_getElem?_getD, hv0, Option.getD_some])
          have HGX := Lib.hid (HGOOD.out _ HX.out)
          have HV0 := Lib.hid (HBD.out 0 v0 hv0)
          clear hv0
          have hcc0 := own_cellAt_mid HC.out (j := 0) rfl
          have hcc1 := own_cellAt_mid HC.out (j := 1) rfl
          have hcc2 := own_cellAt_mid HC.out (j := 2) rfl
          have hcc3 := own_cellAt_mid HC.out (j := 3) rfl
          have hcc4 := own_cellAt_mid HC.out (j := 4) rfl
          have hcc5 := own_cellAt_mid HC.out (j := 5) rfl
          have hyc0 := own_frozen_of HC.out 0
          have hyc1 := own_frozen_of HC.out 1
          have hyc2 := own_frozen_of HC.out 2
          have hyc3 := own_frozen_of HC.out 3
          have hyc4 := own_frozen_of HC.out 4
          have hyc5 := own_frozen_of HC.out 5
          have T0 := Lib.hid (HC.out.stored 4 (.int .i64 1))
          have Q6 := Lib.hid (own_Gx HQ2.out T0.out.2 (.inr (by simp [Value.ownBlock]; omega)))
          have G6 := Lib.hid (Gx.G G0.out T0.out.2 (by intro i hi; cases hi; omega))
          have C6 := Lib.hid T0.out.1
          have M6 := Lib.hid (own_Gx HM.out T0.out.2 (.inr (by simp [Value.ownBlock]; omega)))
          have hm0_0 := own_cellAt_mid M6.out (j := 0) (u := .int .i64 v0) (by first | exact HV0.out)
          have hcc00 := own_cellAt_mid C6.out (j := 0) rfl
          have hcc01 := own_cellAt_mid C6.out (j := 1) rfl
          have hcc02 := own_cellAt_mid C6.out (j := 2) rfl
          have hcc03 := own_cellAt_mid C6.out (j := 3) rfl
          have hcc04 := own_cellAt_mid C6.out (j := 4) rfl
          have hcc05 := own_cellAt_mid C6.out (j := 5) rfl
          have hyc00 := own_frozen_of C6.out 0
          have hyc01 := own_frozen_of C6.out 1
          have hyc02 := own_frozen_of C6.out 2
          have hyc03 := own_frozen_of C6.out 3
          have hyc04 := own_frozen_of C6.out 4
          have hyc05 := own_frozen_of C6.out 5
          have T1 := Lib.hid (C6.out.stored 5 (.int .i64 v0))
          have Q7 := Lib.hid (own_Gx Q6.out T1.out.2 (.inr (by simp [Value.ownBlock]; omega)))
          have G7 := Lib.hid (Gx.G G6.out T1.out.2 (by intro i hi; cases hi; omega))
          have C7 := Lib.hid T1.out.1
          have M7 := Lib.hid (own_Gx M6.out T1.out.2 (.inr (by simp [Value.ownBlock]; omega)))
          have hm1_0 := own_cellAt_mid M7.out (j := 0) (u := .int .i64 v0) (by first | exact HV0.out)
          have hcc10 := own_cellAt_mid C7.out (j := 0) rfl
          have hcc11 := own_cellAt_mid C7.out (j := 1) rfl
          have hcc12 := own_cellAt_mid C7.out (j := 2) rfl
          have hcc13 := own_cellAt_mid C7.out (j := 3) rfl
          have hcc14 := own_cellAt_mid C7.out (j := 4) rfl
          have hcc15 := own_cellAt_mid C7.out (j := 5) rfl
          have hyc10 := own_frozen_of C7.out 0
          have hyc11 := own_frozen_of C7.out 1
          have hyc12 := own_frozen_of C7.out 2
          have hyc13 := own_frozen_of C7.out 3
          have hyc14 := own_frozen_of C7.out 4
          have hyc15 := own_frozen_of C7.out 5
          cases b
          · have H := Lib.hid (HBAD.out rfl)
            have hcq0 := own_cellAt_mid Q7.out (j := 0) rfl
            have hcq1 := own_cellAt_mid Q7.out (j := 1) rfl
            have hcq2 := own_cellAt_mid Q7.out (j := 2) rfl
            have hcq3 := own_cellAt_mid Q7.out (j := 3) rfl
            have hcq4 := own_cellAt_mid Q7.out (j := 4) rfl
            have hcq5 := own_cellAt_mid Q7.out (j := 5) rfl
            have hyq0 := own_frozen_of Q7.out 0
            have hyq1 := own_frozen_of Q7.out 1
            have hyq2 := own_frozen_of Q7.out 2
            have hyq3 := own_frozen_of Q7.out 3
            have hyq4 := own_frozen_of Q7.out 4
            have hyq5 := own_frozen_of Q7.out 5
            go_wp2
            clear hcq0 hcq1 hcq2 hcq3 hcq4 hcq5 hyq0 hyq1 hyq2 hyq3 hyq4 hyq5
            have S0 := Lib.hid (Q7.out.stored 0 (.string ⟨#[]⟩))
            have S1 := Lib.hid (S0.out.1.stored 1 (.int .i64 0))
            have S2 := Lib.hid (S1.out.1.stored 2 (.int .i64 0))
            have S3 := Lib.hid (S2.out.1.stored 3 (.string ⟨#[]⟩))
            have S4 := Lib.hid (S3.out.1.stored 4 (.int .i64 0))
            have S5 := Lib.hid (S4.out.1.stored 5 (.int .i64 0))
            have k0 := own_cellAt_mid S5.out.1 (j := 0) rfl
            have k1 := own_cellAt_mid S5.out.1 (j := 1) rfl
            have k2 := own_cellAt_mid S5.out.1 (j := 2) rfl
            have k3 := own_cellAt_mid S5.out.1 (j := 3) rfl
            have k4 := own_cellAt_mid S5.out.1 (j := 4) rfl
            have k5 := own_cellAt_mid S5.out.1 (j := 5) rfl
            exact bodyPost_ret (v := .tuple #[.agg #[.string ⟨#[]⟩, .int .i64 0, .int .i64 0, .string ⟨#[]⟩, .int .i64 0, .int .i64 0], .bool false]) (by simp [results, Tryd.results24, go_sem, k0, k1, k2, k3, k4, k5]) rfl ⟨by rw [H.out] <;> rfl, Gx.G G7.out (Gx.trans (Gx.trans (Gx.trans (Gx.trans (Gx.trans S0.out.2 S1.out.2) S2.out.2) S3.out.2) S4.out.2) S5.out.2) (by intro i hi; cases hi; exact Nat.le_refl _)⟩
          · have KO1 := Lib.hid (KO.out (⟨i, tv, 0, g, 1, v0⟩ : SCue) ⟨show i.size ≤ maxLen by rw [hml]; omega, show g.size ≤ maxLen by rw [hml]; omega⟩ qb _ hcc10 hcc11 hcc12 hcc13 hcc14 hcc15)
            have H := Lib.hid (HGX.out rfl)
            cases hv : vcuB (⟨i, tv, 0, g, 1, v0⟩ : SCue)
            · rw [hv] at H KO1
              have H2 := Lib.hid (show R = (cuZ, false) by rw [H.out]; rfl)
              clear hv
              go_wp2_with (go_at_call 44; (with_reducible refine KO1.out.mono ?_); rintro e w5 ⟨rfl, g5⟩; have GE := Lib.hid (G7.out.trans g5); have QE := Lib.hid (own_G Q7.out g5); have CE := Lib.hid (own_G C7.out g5); clear g5; clear hcc10 hcc11 hcc12 hcc13 hcc14 hcc15 hyc10 hyc11 hyc12 hyc13 hyc14 hyc15; have hcq0 := own_cellAt_mid QE.out (j := 0) rfl; have hcq1 := own_cellAt_mid QE.out (j := 1) rfl; have hcq2 := own_cellAt_mid QE.out (j := 2) rfl; have hcq3 := own_cellAt_mid QE.out (j := 3) rfl; have hcq4 := own_cellAt_mid QE.out (j := 4) rfl; have hcq5 := own_cellAt_mid QE.out (j := 5) rfl; have hyq0 := own_frozen_of QE.out 0; have hyq1 := own_frozen_of QE.out 1; have hyq2 := own_frozen_of QE.out 2; have hyq3 := own_frozen_of QE.out 3; have hyq4 := own_frozen_of QE.out 4; have hyq5 := own_frozen_of QE.out 5)
              clear hcq0 hcq1 hcq2 hcq3 hcq4 hcq5 hyq0 hyq1 hyq2 hyq3 hyq4 hyq5
              have S0 := Lib.hid (QE.out.stored 0 (.string ⟨#[]⟩))
              have S1 := Lib.hid (S0.out.1.stored 1 (.int .i64 0))
              have S2 := Lib.hid (S1.out.1.stored 2 (.int .i64 0))
              have S3 := Lib.hid (S2.out.1.stored 3 (.string ⟨#[]⟩))
              have S4 := Lib.hid (S3.out.1.stored 4 (.int .i64 0))
              have S5 := Lib.hid (S4.out.1.stored 5 (.int .i64 0))
              have k0 := own_cellAt_mid S5.out.1 (j := 0) rfl
              have k1 := own_cellAt_mid S5.out.1 (j := 1) rfl
              have k2 := own_cellAt_mid S5.out.1 (j := 2) rfl
              have k3 := own_cellAt_mid S5.out.1 (j := 3) rfl
              have k4 := own_cellAt_mid S5.out.1 (j := 4) rfl
              have k5 := own_cellAt_mid S5.out.1 (j := 5) rfl
              exact bodyPost_ret (v := .tuple #[.agg #[.string ⟨#[]⟩, .int .i64 0, .int .i64 0, .string ⟨#[]⟩, .int .i64 0, .int .i64 0], .bool false]) (by simp [results, Tryd.results24, go_sem, k0, k1, k2, k3, k4, k5]) rfl ⟨by rw [H2.out] <;> rfl, Gx.G GE.out (Gx.trans (Gx.trans (Gx.trans (Gx.trans (Gx.trans S0.out.2 S1.out.2) S2.out.2) S3.out.2) S4.out.2) S5.out.2) (by intro i hi; cases hi; exact Nat.le_refl _)⟩
            · rw [hv] at H KO1
              have H2 := Lib.hid (show R = ((⟨i, tv, 0, g, 1, v0⟩ : SCue), true) by rw [H.out]; rfl)
              clear hv
              go_wp2_with (go_at_call 44; (with_reducible refine KO1.out.mono ?_); rintro e w5 ⟨rfl, g5⟩; have GE := Lib.hid (G7.out.trans g5); have QE := Lib.hid (own_G Q7.out g5); have CE := Lib.hid (own_G C7.out g5); clear g5; clear hcc10 hcc11 hcc12 hcc13 hcc14 hcc15 hyc10 hyc11 hyc12 hyc13 hyc14 hyc15; have hcq0 := own_cellAt_mid QE.out (j := 0) rfl; have hcq1 := own_cellAt_mid QE.out (j := 1) rfl; have hcq2 := own_cellAt_mid QE.out (j := 2) rfl; have hcq3 := own_cellAt_mid QE.out (j := 3) rfl; have hcq4 := own_cellAt_mid QE.out (j := 4) rfl; have hcq5 := own_cellAt_mid QE.out (j := 5) rfl; have hyq0 := own_frozen_of QE.out 0; have hyq1 := own_frozen_of QE.out 1; have hyq2 := own_frozen_of QE.out 2; have hyq3 := own_frozen_of QE.out 3; have hyq4 := own_frozen_of QE.out 4; have hyq5 := own_frozen_of QE.out 5; have hce0 := own_cellAt_mid CE.out (j := 0) rfl; have hce1 := own_cellAt_mid CE.out (j := 1) rfl; have hce2 := own_cellAt_mid CE.out (j := 2) rfl; have hce3 := own_cellAt_mid CE.out (j := 3) rfl; have hce4 := own_cellAt_mid CE.out (j := 4) rfl; have hce5 := own_cellAt_mid CE.out (j := 5) rfl; have hye0 := own_frozen_of CE.out 0; have hye1 := own_frozen_of CE.out 1; have hye2 := own_frozen_of CE.out 2; have hye3 := own_frozen_of CE.out 3; have hye4 := own_frozen_of CE.out 4; have hye5 := own_frozen_of CE.out 5)
              clear hcq0 hcq1 hcq2 hcq3 hcq4 hcq5 hyq0 hyq1 hyq2 hyq3 hyq4 hyq5
              clear hce0 hce1 hce2 hce3 hce4 hce5 hye0 hye1 hye2 hye3 hye4 hye5
              have S0 := Lib.hid (QE.out.stored 0 (.string i))
              have S1 := Lib.hid (S0.out.1.stored 1 (.int .i64 tv))
              have S2 := Lib.hid (S1.out.1.stored 2 (.int .i64 0))
              have S3 := Lib.hid (S2.out.1.stored 3 (.string g))
              have S4 := Lib.hid (S3.out.1.stored 4 (.int .i64 1))
              have S5 := Lib.hid (S4.out.1.stored 5 (.int .i64 v0))
              have k0 := own_cellAt_mid S5.out.1 (j := 0) rfl
              have k1 := own_cellAt_mid S5.out.1 (j := 1) rfl
              have k2 := own_cellAt_mid S5.out.1 (j := 2) rfl
              have k3 := own_cellAt_mid S5.out.1 (j := 3) rfl
              have k4 := own_cellAt_mid S5.out.1 (j := 4) rfl
              have k5 := own_cellAt_mid S5.out.1 (j := 5) rfl
              exact bodyPost_ret (v := .tuple #[.agg #[.string i, .int .i64 tv, .int .i64 0, .string g, .int .i64 1, .int .i64 v0], .bool true]) (by simp [results, Tryd.results24, go_sem, k0, k1, k2, k3, k4, k5]) rfl ⟨by rw [H2.out] <;> rfl, Gx.G GE.out (Gx.trans (Gx.trans (Gx.trans (Gx.trans (Gx.trans S0.out.2 S1.out.2) S2.out.2) S3.out.2) S4.out.2) S5.out.2) (by intro i hi; cases hi; exact Nat.le_refl _)⟩
        · have HK := Lib.hid (show cuK a m = 0 by unfold cuK; rw [if_neg (fun e => m1 e.2), if_neg (fun e => U.out.1 (e.1.symm.trans a1)), if_neg (fun e => U.out.2.1 (e.1.symm.trans a1))])
          have l1 : ((m : Int) == 1) = false := by rw [beq_eq_false_iff_ne]; omega
          clear a1 m1
          have H := Lib.hid (HBAD0.out (HK.out))
          have hcq0 := own_cellAt_mid HQ2.out (j := 0) rfl
          have hcq1 := own_cellAt_mid HQ2.out (j := 1) rfl
          have hcq2 := own_cellAt_mid HQ2.out (j := 2) rfl
          have hcq3 := own_cellAt_mid HQ2.out (j := 3) rfl
          have hcq4 := own_cellAt_mid HQ2.out (j := 4) rfl
          have hcq5 := own_cellAt_mid HQ2.out (j := 5) rfl
          have hyq0 := own_frozen_of HQ2.out 0
          have hyq1 := own_frozen_of HQ2.out 1
          have hyq2 := own_frozen_of HQ2.out 2
          have hyq3 := own_frozen_of HQ2.out 3
          have hyq4 := own_frozen_of HQ2.out 4
          have hyq5 := own_frozen_of HQ2.out 5
          go_wp2
          clear hcq0 hcq1 hcq2 hcq3 hcq4 hcq5 hyq0 hyq1 hyq2 hyq3 hyq4 hyq5
          have S0 := Lib.hid (HQ2.out.stored 0 (.string ⟨#[]⟩))
          have S1 := Lib.hid (S0.out.1.stored 1 (.int .i64 0))
          have S2 := Lib.hid (S1.out.1.stored 2 (.int .i64 0))
          have S3 := Lib.hid (S2.out.1.stored 3 (.string ⟨#[]⟩))
          have S4 := Lib.hid (S3.out.1.stored 4 (.int .i64 0))
          have S5 := Lib.hid (S4.out.1.stored 5 (.int .i64 0))
          have k0 := own_cellAt_mid S5.out.1 (j := 0) rfl
          have k1 := own_cellAt_mid S5.out.1 (j := 1) rfl
          have k2 := own_cellAt_mid S5.out.1 (j := 2) rfl
          have k3 := own_cellAt_mid S5.out.1 (j := 3) rfl
          have k4 := own_cellAt_mid S5.out.1 (j := 4) rfl
          have k5 := own_cellAt_mid S5.out.1 (j := 5) rfl
          exact bodyPost_ret (v := .tuple #[.agg #[.string ⟨#[]⟩, .int .i64 0, .int .i64 0, .string ⟨#[]⟩, .int .i64 0, .int .i64 0], .bool false]) (by simp [results, Tryd.results24, go_sem, k0, k1, k2, k3, k4, k5]) rfl ⟨by rw [H.out] <;> rfl, Gx.G G0.out (Gx.trans (Gx.trans (Gx.trans (Gx.trans (Gx.trans S0.out.2 S1.out.2) S2.out.2) S3.out.2) S4.out.2) S5.out.2) (by intro i hi; cases hi; exact Nat.le_refl _)⟩
      by_cases a2 : a = mkB wFade
      · have f1 : (a.toList == [115, 101, 116]) = false := str_no a1
        have f2 : (a.toList == [102, 97, 100, 101]) = true := by rw [a2]; exact str_yes _
        have f3 : (a.toList == [115, 116, 111, 112]) = false := str_no (by rw [a2]; exact fun e => U.out.2.2 e.symm)
        by_cases m1 : m = 2
        · have HK := Lib.hid (show cuK a m = 2 by unfold cuK; rw [if_neg (fun e => a1 e.1), if_pos ⟨a2, m1⟩])
          clear a1 a2
          subst m1
          obtain ⟨v0, hv0⟩ := HLV.out 0 (by omega)
          obtain ⟨v1, hv1⟩ := HLV.out 1 (by omega)
          obtain ⟨gM, rfl⟩ := own_head HM.out (by omega)
          have hgM := (HM.out.lt gM rfl).1
          have hm0 := own_cellAt_mid HM.out (j := 0) (HBD.out 0 v0 hv0)
          have hm1 := own_cellAt_mid HM.out (j := 1) (HBD.out 1 v1 hv1)
          have HX := Lib.hid (show cuMk i tv g (cuK a 2) VL = (⟨i, tv, v1, g, 2, v0⟩ : SCue) by rw [HK.out]; unfold cuMk; rw [if_pos rfl, if_pos (by decide)]; simp only [List.getD_eq_getElem?_getD, hv0, hv1, Option.getD_some])
          have HGX := Lib.hid (HGOOD.out _ HX.out)
          have HV0 := Lib.hid (HBD.out 0 v0 hv0)
          clear hv0
          have HV1 := Lib.hid (HBD.out 1 v1 hv1)
          clear hv1
          have hcc0 := own_cellAt_mid HC.out (j := 0) rfl
          have hcc1 := own_cellAt_mid HC.out (j := 1) rfl
          have hcc2 := own_cellAt_mid HC.out (j := 2) rfl
          have hcc3 := own_cellAt_mid HC.out (j := 3) rfl
          have hcc4 := own_cellAt_mid HC.out (j := 4) rfl
          have hcc5 := own_cellAt_mid HC.out (j := 5) rfl
          have hyc0 := own_frozen_of HC.out 0
          have hyc1 := own_frozen_of HC.out 1
          have hyc2 := own_frozen_of HC.out 2
          have hyc3 := own_frozen_of HC.out 3
          have hyc4 := own_frozen_of HC.out 4
          have hyc5 := own_frozen_of HC.out 5
          have T0 := Lib.hid (HC.out.stored 4 (.int .i64 2))
          have Q6 := Lib.hid (own_Gx HQ2.out T0.out.2 (.inr (by simp [Value.ownBlock]; omega)))
          have G6 := Lib.hid (Gx.G G0.out T0.out.2 (by intro i hi; cases hi; omega))
          have C6 := Lib.hid T0.out.1
          have M6 := Lib.hid (own_Gx HM.out T0.out.2 (.inr (by simp [Value.ownBlock]; omega)))
          have hm0_0 := own_cellAt_mid M6.out (j := 0) (u := .int .i64 v0) (by first | exact HV0.out)
          have hm0_1 := own_cellAt_mid M6.out (j := 1) (u := .int .i64 v1) (by first | exact HV1.out)
          have hcc00 := own_cellAt_mid C6.out (j := 0) rfl
          have hcc01 := own_cellAt_mid C6.out (j := 1) rfl
          have hcc02 := own_cellAt_mid C6.out (j := 2) rfl
          have hcc03 := own_cellAt_mid C6.out (j := 3) rfl
          have hcc04 := own_cellAt_mid C6.out (j := 4) rfl
          have hcc05 := own_cellAt_mid C6.out (j := 5) rfl
          have hyc00 := own_frozen_of C6.out 0
          have hyc01 := own_frozen_of C6.out 1
          have hyc02 := own_frozen_of C6.out 2
          have hyc03 := own_frozen_of C6.out 3
          have hyc04 := own_frozen_of C6.out 4
          have hyc05 := own_frozen_of C6.out 5
          have T1 := Lib.hid (C6.out.stored 5 (.int .i64 v0))
          have Q7 := Lib.hid (own_Gx Q6.out T1.out.2 (.inr (by simp [Value.ownBlock]; omega)))
          have G7 := Lib.hid (Gx.G G6.out T1.out.2 (by intro i hi; cases hi; omega))
          have C7 := Lib.hid T1.out.1
          have M7 := Lib.hid (own_Gx M6.out T1.out.2 (.inr (by simp [Value.ownBlock]; omega)))
          have hm1_0 := own_cellAt_mid M7.out (j := 0) (u := .int .i64 v0) (by first | exact HV0.out)
          have hm1_1 := own_cellAt_mid M7.out (j := 1) (u := .int .i64 v1) (by first | exact HV1.out)
          have hcc10 := own_cellAt_mid C7.out (j := 0) rfl
          have hcc11 := own_cellAt_mid C7.out (j := 1) rfl
          have hcc12 := own_cellAt_mid C7.out (j := 2) rfl
          have hcc13 := own_cellAt_mid C7.out (j := 3) rfl
          have hcc14 := own_cellAt_mid C7.out (j := 4) rfl
          have hcc15 := own_cellAt_mid C7.out (j := 5) rfl
          have hyc10 := own_frozen_of C7.out 0
          have hyc11 := own_frozen_of C7.out 1
          have hyc12 := own_frozen_of C7.out 2
          have hyc13 := own_frozen_of C7.out 3
          have hyc14 := own_frozen_of C7.out 4
          have hyc15 := own_frozen_of C7.out 5
          have T2 := Lib.hid (C7.out.stored 2 (.int .i64 v1))
          have Q8 := Lib.hid (own_Gx Q7.out T2.out.2 (.inr (by simp [Value.ownBlock]; omega)))
          have G8 := Lib.hid (Gx.G G7.out T2.out.2 (by intro i hi; cases hi; omega))
          have C8 := Lib.hid T2.out.1
          have M8 := Lib.hid (own_Gx M7.out T2.out.2 (.inr (by simp [Value.ownBlock]; omega)))
          have hm2_0 := own_cellAt_mid M8.out (j := 0) (u := .int .i64 v0) (by first | exact HV0.out)
          have hm2_1 := own_cellAt_mid M8.out (j := 1) (u := .int .i64 v1) (by first | exact HV1.out)
          have hcc20 := own_cellAt_mid C8.out (j := 0) rfl
          have hcc21 := own_cellAt_mid C8.out (j := 1) rfl
          have hcc22 := own_cellAt_mid C8.out (j := 2) rfl
          have hcc23 := own_cellAt_mid C8.out (j := 3) rfl
          have hcc24 := own_cellAt_mid C8.out (j := 4) rfl
          have hcc25 := own_cellAt_mid C8.out (j := 5) rfl
          have hyc20 := own_frozen_of C8.out 0
          have hyc21 := own_frozen_of C8.out 1
          have hyc22 := own_frozen_of C8.out 2
          have hyc23 := own_frozen_of C8.out 3
          have hyc24 := own_frozen_of C8.out 4
          have hyc25 := own_frozen_of C8.out 5
          cases b
          · have H := Lib.hid (HBAD.out rfl)
            have hcq0 := own_cellAt_mid Q8.out (j := 0) rfl
            have hcq1 := own_cellAt_mid Q8.out (j := 1) rfl
            have hcq2 := own_cellAt_mid Q8.out (j := 2) rfl
            have hcq3 := own_cellAt_mid Q8.out (j := 3) rfl
            have hcq4 := own_cellAt_mid Q8.out (j := 4) rfl
            have hcq5 := own_cellAt_mid Q8.out (j := 5) rfl
            have hyq0 := own_frozen_of Q8.out 0
            have hyq1 := own_frozen_of Q8.out 1
            have hyq2 := own_frozen_of Q8.out 2
            have hyq3 := own_frozen_of Q8.out 3
            have hyq4 := own_frozen_of Q8.out 4
            have hyq5 := own_frozen_of Q8.out 5
            go_wp2
            clear hcq0 hcq1 hcq2 hcq3 hcq4 hcq5 hyq0 hyq1 hyq2 hyq3 hyq4 hyq5
            have S0 := Lib.hid (Q8.out.stored 0 (.string ⟨#[]⟩))
            have S1 := Lib.hid (S0.out.1.stored 1 (.int .i64 0))
            have S2 := Lib.hid (S1.out.1.stored 2 (.int .i64 0))
            have S3 := Lib.hid (S2.out.1.stored 3 (.string ⟨#[]⟩))
            have S4 := Lib.hid (S3.out.1.stored 4 (.int .i64 0))
            have S5 := Lib.hid (S4.out.1.stored 5 (.int .i64 0))
            have k0 := own_cellAt_mid S5.out.1 (j := 0) rfl
            have k1 := own_cellAt_mid S5.out.1 (j := 1) rfl
            have k2 := own_cellAt_mid S5.out.1 (j := 2) rfl
            have k3 := own_cellAt_mid S5.out.1 (j := 3) rfl
            have k4 := own_cellAt_mid S5.out.1 (j := 4) rfl
            have k5 := own_cellAt_mid S5.out.1 (j := 5) rfl
            exact bodyPost_ret (v := .tuple #[.agg #[.string ⟨#[]⟩, .int .i64 0, .int .i64 0, .string ⟨#[]⟩, .int .i64 0, .int .i64 0], .bool false]) (by simp [results, Tryd.results24, go_sem, k0, k1, k2, k3, k4, k5]) rfl ⟨by rw [H.out] <;> rfl, Gx.G G8.out (Gx.trans (Gx.trans (Gx.trans (Gx.trans (Gx.trans S0.out.2 S1.out.2) S2.out.2) S3.out.2) S4.out.2) S5.out.2) (by intro i hi; cases hi; exact Nat.le_refl _)⟩
          · have KO1 := Lib.hid (KO.out (⟨i, tv, v1, g, 2, v0⟩ : SCue) ⟨show i.size ≤ maxLen by rw [hml]; omega, show g.size ≤ maxLen by rw [hml]; omega⟩ qb _ hcc20 hcc21 hcc22 hcc23 hcc24 hcc25)
            have H := Lib.hid (HGX.out rfl)
            cases hv : vcuB (⟨i, tv, v1, g, 2, v0⟩ : SCue)
            · rw [hv] at H KO1
              have H2 := Lib.hid (show R = (cuZ, false) by rw [H.out]; rfl)
              clear hv
              go_wp2_with (go_at_call 44; (with_reducible refine KO1.out.mono ?_); rintro e w5 ⟨rfl, g5⟩; have GE := Lib.hid (G8.out.trans g5); have QE := Lib.hid (own_G Q8.out g5); have CE := Lib.hid (own_G C8.out g5); clear g5; clear hcc20 hcc21 hcc22 hcc23 hcc24 hcc25 hyc20 hyc21 hyc22 hyc23 hyc24 hyc25; have hcq0 := own_cellAt_mid QE.out (j := 0) rfl; have hcq1 := own_cellAt_mid QE.out (j := 1) rfl; have hcq2 := own_cellAt_mid QE.out (j := 2) rfl; have hcq3 := own_cellAt_mid QE.out (j := 3) rfl; have hcq4 := own_cellAt_mid QE.out (j := 4) rfl; have hcq5 := own_cellAt_mid QE.out (j := 5) rfl; have hyq0 := own_frozen_of QE.out 0; have hyq1 := own_frozen_of QE.out 1; have hyq2 := own_frozen_of QE.out 2; have hyq3 := own_frozen_of QE.out 3; have hyq4 := own_frozen_of QE.out 4; have hyq5 := own_frozen_of QE.out 5)
              clear hcq0 hcq1 hcq2 hcq3 hcq4 hcq5 hyq0 hyq1 hyq2 hyq3 hyq4 hyq5
              have S0 := Lib.hid (QE.out.stored 0 (.string ⟨#[]⟩))
              have S1 := Lib.hid (S0.out.1.stored 1 (.int .i64 0))
              have S2 := Lib.hid (S1.out.1.stored 2 (.int .i64 0))
              have S3 := Lib.hid (S2.out.1.stored 3 (.string ⟨#[]⟩))
              have S4 := Lib.hid (S3.out.1.stored 4 (.int .i64 0))
              have S5 := Lib.hid (S4.out.1.stored 5 (.int .i64 0))
              have k0 := own_cellAt_mid S5.out.1 (j := 0) rfl
              have k1 := own_cellAt_mid S5.out.1 (j := 1) rfl
              have k2 := own_cellAt_mid S5.out.1 (j := 2) rfl
              have k3 := own_cellAt_mid S5.out.1 (j := 3) rfl
              have k4 := own_cellAt_mid S5.out.1 (j := 4) rfl
              have k5 := own_cellAt_mid S5.out.1 (j := 5) rfl
              exact bodyPost_ret (v := .tuple #[.agg #[.string ⟨#[]⟩, .int .i64 0, .int .i64 0, .string ⟨#[]⟩, .int .i64 0, .int .i64 0], .bool false]) (by simp [results, Tryd.results24, go_sem, k0, k1, k2, k3, k4, k5]) rfl ⟨by rw [H2.out] <;> rfl, Gx.G GE.out (Gx.trans (Gx.trans (Gx.trans (Gx.trans (Gx.trans S0.out.2 S1.out.2) S2.out.2) S3.out.2) S4.out.2) S5.out.2) (by intro i hi; cases hi; exact Nat.le_refl _)⟩
            · rw [hv] at H KO1
              have H2 := Lib.hid (show R = ((⟨i, tv, v1, g, 2, v0⟩ : SCue), true) by rw [H.out]; rfl)
              clear hv
              go_wp2_with (go_at_call 44; (with_reducible refine KO1.out.mono ?_); rintro e w5 ⟨rfl, g5⟩; have GE := Lib.hid (G8.out.trans g5); have QE := Lib.hid (own_G Q8.out g5); have CE := Lib.hid (own_G C8.out g5); clear g5; clear hcc20 hcc21 hcc22 hcc23 hcc24 hcc25 hyc20 hyc21 hyc22 hyc23 hyc24 hyc25; have hcq0 := own_cellAt_mid QE.out (j := 0) rfl; have hcq1 := own_cellAt_mid QE.out (j := 1) rfl; have hcq2 := own_cellAt_mid QE.out (j := 2) rfl; have hcq3 := own_cellAt_mid QE.out (j := 3) rfl; have hcq4 := own_cellAt_mid QE.out (j := 4) rfl; have hcq5 := own_cellAt_mid QE.out (j := 5) rfl; have hyq0 := own_frozen_of QE.out 0; have hyq1 := own_frozen_of QE.out 1; have hyq2 := own_frozen_of QE.out 2; have hyq3 := own_frozen_of QE.out 3; have hyq4 := own_frozen_of QE.out 4; have hyq5 := own_frozen_of QE.out 5; have hce0 := own_cellAt_mid CE.out (j := 0) rfl; have hce1 := own_cellAt_mid CE.out (j := 1) rfl; have hce2 := own_cellAt_mid CE.out (j := 2) rfl; have hce3 := own_cellAt_mid CE.out (j := 3) rfl; have hce4 := own_cellAt_mid CE.out (j := 4) rfl; have hce5 := own_cellAt_mid CE.out (j := 5) rfl; have hye0 := own_frozen_of CE.out 0; have hye1 := own_frozen_of CE.out 1; have hye2 := own_frozen_of CE.out 2; have hye3 := own_frozen_of CE.out 3; have hye4 := own_frozen_of CE.out 4; have hye5 := own_frozen_of CE.out 5)
              clear hcq0 hcq1 hcq2 hcq3 hcq4 hcq5 hyq0 hyq1 hyq2 hyq3 hyq4 hyq5
              clear hce0 hce1 hce2 hce3 hce4 hce5 hye0 hye1 hye2 hye3 hye4 hye5
              have S0 := Lib.hid (QE.out.stored 0 (.string i))
              have S1 := Lib.hid (S0.out.1.stored 1 (.int .i64 tv))
              have S2 := Lib.hid (S1.out.1.stored 2 (.int .i64 v1))
              have S3 := Lib.hid (S2.out.1.stored 3 (.string g))
              have S4 := Lib.hid (S3.out.1.stored 4 (.int .i64 2))
              have S5 := Lib.hid (S4.out.1.stored 5 (.int .i64 v0))
              have k0 := own_cellAt_mid S5.out.1 (j := 0) rfl
              have k1 := own_cellAt_mid S5.out.1 (j := 1) rfl
              have k2 := own_cellAt_mid S5.out.1 (j := 2) rfl
              have k3 := own_cellAt_mid S5.out.1 (j := 3) rfl
              have k4 := own_cellAt_mid S5.out.1 (j := 4) rfl
              have k5 := own_cellAt_mid S5.out.1 (j := 5) rfl
              exact bodyPost_ret (v := .tuple #[.agg #[.string i, .int .i64 tv, .int .i64 v1, .string g, .int .i64 2, .int .i64 v0], .bool true]) (by simp [results, Tryd.results24, go_sem, k0, k1, k2, k3, k4, k5]) rfl ⟨by rw [H2.out] <;> rfl, Gx.G GE.out (Gx.trans (Gx.trans (Gx.trans (Gx.trans (Gx.trans S0.out.2 S1.out.2) S2.out.2) S3.out.2) S4.out.2) S5.out.2) (by intro i hi; cases hi; exact Nat.le_refl _)⟩
        · have HK := Lib.hid (show cuK a m = 0 by unfold cuK; rw [if_neg (fun e => a1 e.1), if_neg (fun e => m1 e.2), if_neg (fun e => U.out.2.2 (e.1.symm.trans a2))])
          have l1 : ((m : Int) == 2) = false := by rw [beq_eq_false_iff_ne]; omega
          clear a1 a2 m1
          have H := Lib.hid (HBAD0.out (HK.out))
          have hcq0 := own_cellAt_mid HQ2.out (j := 0) rfl
          have hcq1 := own_cellAt_mid HQ2.out (j := 1) rfl
          have hcq2 := own_cellAt_mid HQ2.out (j := 2) rfl
          have hcq3 := own_cellAt_mid HQ2.out (j := 3) rfl
          have hcq4 := own_cellAt_mid HQ2.out (j := 4) rfl
          have hcq5 := own_cellAt_mid HQ2.out (j := 5) rfl
          have hyq0 := own_frozen_of HQ2.out 0
          have hyq1 := own_frozen_of HQ2.out 1
          have hyq2 := own_frozen_of HQ2.out 2
          have hyq3 := own_frozen_of HQ2.out 3
          have hyq4 := own_frozen_of HQ2.out 4
          have hyq5 := own_frozen_of HQ2.out 5
          go_wp2
          clear hcq0 hcq1 hcq2 hcq3 hcq4 hcq5 hyq0 hyq1 hyq2 hyq3 hyq4 hyq5
          have S0 := Lib.hid (HQ2.out.stored 0 (.string ⟨#[]⟩))
          have S1 := Lib.hid (S0.out.1.stored 1 (.int .i64 0))
          have S2 := Lib.hid (S1.out.1.stored 2 (.int .i64 0))
          have S3 := Lib.hid (S2.out.1.stored 3 (.string ⟨#[]⟩))
          have S4 := Lib.hid (S3.out.1.stored 4 (.int .i64 0))
          have S5 := Lib.hid (S4.out.1.stored 5 (.int .i64 0))
          have k0 := own_cellAt_mid S5.out.1 (j := 0) rfl
          have k1 := own_cellAt_mid S5.out.1 (j := 1) rfl
          have k2 := own_cellAt_mid S5.out.1 (j := 2) rfl
          have k3 := own_cellAt_mid S5.out.1 (j := 3) rfl
          have k4 := own_cellAt_mid S5.out.1 (j := 4) rfl
          have k5 := own_cellAt_mid S5.out.1 (j := 5) rfl
          exact bodyPost_ret (v := .tuple #[.agg #[.string ⟨#[]⟩, .int .i64 0, .int .i64 0, .string ⟨#[]⟩, .int .i64 0, .int .i64 0], .bool false]) (by simp [results, Tryd.results24, go_sem, k0, k1, k2, k3, k4, k5]) rfl ⟨by rw [H.out] <;> rfl, Gx.G G0.out (Gx.trans (Gx.trans (Gx.trans (Gx.trans (Gx.trans S0.out.2 S1.out.2) S2.out.2) S3.out.2) S4.out.2) S5.out.2) (by intro i hi; cases hi; exact Nat.le_refl _)⟩
      by_cases a3 : a = mkB wStop
      · have f1 : (a.toList == [115, 101, 116]) = false := str_no a1
        have f2 : (a.toList == [102, 97, 100, 101]) = false := str_no a2
        have f3 : (a.toList == [115, 116, 111, 112]) = true := by rw [a3]; exact str_yes _
        by_cases m1 : m = 0
        · have HK := Lib.hid (show cuK a m = 3 by unfold cuK; rw [if_neg (fun e => a1 e.1), if_neg (fun e => a2 e.1), if_pos ⟨a3, m1⟩])
          clear a1 a2 a3
          subst m1
          have HX := Lib.hid (show cuMk i tv g (cuK a 0) VL = (⟨i, tv, 0, g, 3, 0⟩ : SCue) by rw [HK.out]; unfold cuMk; rw [if_neg (by decide), if_neg (by decide)])
          have HGX := Lib.hid (HGOOD.out _ HX.out)
          have hcc0 := own_cellAt_mid HC.out (j := 0) rfl
          have hcc1 := own_cellAt_mid HC.out (j := 1) rfl
          have hcc2 := own_cellAt_mid HC.out (j := 2) rfl
          have hcc3 := own_cellAt_mid HC.out (j := 3) rfl
          have hcc4 := own_cellAt_mid HC.out (j := 4) rfl
          have hcc5 := own_cellAt_mid HC.out (j := 5) rfl
          have hyc0 := own_frozen_of HC.out 0
          have hyc1 := own_frozen_of HC.out 1
          have hyc2 := own_frozen_of HC.out 2
          have hyc3 := own_frozen_of HC.out 3
          have hyc4 := own_frozen_of HC.out 4
          have hyc5 := own_frozen_of HC.out 5
          have T0 := Lib.hid (HC.out.stored 4 (.int .i64 3))
          have Q6 := Lib.hid (own_Gx HQ2.out T0.out.2 (.inr (by simp [Value.ownBlock]; omega)))
          have G6 := Lib.hid (Gx.G G0.out T0.out.2 (by intro i hi; cases hi; omega))
          have C6 := Lib.hid T0.out.1
          have hcc00 := own_cellAt_mid C6.out (j := 0) rfl
          have hcc01 := own_cellAt_mid C6.out (j := 1) rfl
          have hcc02 := own_cellAt_mid C6.out (j := 2) rfl
          have hcc03 := own_cellAt_mid C6.out (j := 3) rfl
          have hcc04 := own_cellAt_mid C6.out (j := 4) rfl
          have hcc05 := own_cellAt_mid C6.out (j := 5) rfl
          have hyc00 := own_frozen_of C6.out 0
          have hyc01 := own_frozen_of C6.out 1
          have hyc02 := own_frozen_of C6.out 2
          have hyc03 := own_frozen_of C6.out 3
          have hyc04 := own_frozen_of C6.out 4
          have hyc05 := own_frozen_of C6.out 5
          cases b
          · have H := Lib.hid (HBAD.out rfl)
            have hcq0 := own_cellAt_mid Q6.out (j := 0) rfl
            have hcq1 := own_cellAt_mid Q6.out (j := 1) rfl
            have hcq2 := own_cellAt_mid Q6.out (j := 2) rfl
            have hcq3 := own_cellAt_mid Q6.out (j := 3) rfl
            have hcq4 := own_cellAt_mid Q6.out (j := 4) rfl
            have hcq5 := own_cellAt_mid Q6.out (j := 5) rfl
            have hyq0 := own_frozen_of Q6.out 0
            have hyq1 := own_frozen_of Q6.out 1
            have hyq2 := own_frozen_of Q6.out 2
            have hyq3 := own_frozen_of Q6.out 3
            have hyq4 := own_frozen_of Q6.out 4
            have hyq5 := own_frozen_of Q6.out 5
            go_wp2
            clear hcq0 hcq1 hcq2 hcq3 hcq4 hcq5 hyq0 hyq1 hyq2 hyq3 hyq4 hyq5
            have S0 := Lib.hid (Q6.out.stored 0 (.string ⟨#[]⟩))
            have S1 := Lib.hid (S0.out.1.stored 1 (.int .i64 0))
            have S2 := Lib.hid (S1.out.1.stored 2 (.int .i64 0))
            have S3 := Lib.hid (S2.out.1.stored 3 (.string ⟨#[]⟩))
            have S4 := Lib.hid (S3.out.1.stored 4 (.int .i64 0))
            have S5 := Lib.hid (S4.out.1.stored 5 (.int .i64 0))
            have k0 := own_cellAt_mid S5.out.1 (j := 0) rfl
            have k1 := own_cellAt_mid S5.out.1 (j := 1) rfl
            have k2 := own_cellAt_mid S5.out.1 (j := 2) rfl
            have k3 := own_cellAt_mid S5.out.1 (j := 3) rfl
            have k4 := own_cellAt_mid S5.out.1 (j := 4) rfl
            have k5 := own_cellAt_mid S5.out.1 (j := 5) rfl
            exact bodyPost_ret (v := .tuple #[.agg #[.string ⟨#[]⟩, .int .i64 0, .int .i64 0, .string ⟨#[]⟩, .int .i64 0, .int .i64 0], .bool false]) (by simp [results, Tryd.results24, go_sem, k0, k1, k2, k3, k4, k5]) rfl ⟨by rw [H.out] <;> rfl, Gx.G G6.out (Gx.trans (Gx.trans (Gx.trans (Gx.trans (Gx.trans S0.out.2 S1.out.2) S2.out.2) S3.out.2) S4.out.2) S5.out.2) (by intro i hi; cases hi; exact Nat.le_refl _)⟩
          · have KO1 := Lib.hid (KO.out (⟨i, tv, 0, g, 3, 0⟩ : SCue) ⟨show i.size ≤ maxLen by rw [hml]; omega, show g.size ≤ maxLen by rw [hml]; omega⟩ qb _ hcc00 hcc01 hcc02 hcc03 hcc04 hcc05)
            have H := Lib.hid (HGX.out rfl)
            cases hv : vcuB (⟨i, tv, 0, g, 3, 0⟩ : SCue)
            · rw [hv] at H KO1
              have H2 := Lib.hid (show R = (cuZ, false) by rw [H.out]; rfl)
              clear hv
              go_wp2_with (go_at_call 44; (with_reducible refine KO1.out.mono ?_); rintro e w5 ⟨rfl, g5⟩; have GE := Lib.hid (G6.out.trans g5); have QE := Lib.hid (own_G Q6.out g5); have CE := Lib.hid (own_G C6.out g5); clear g5; clear hcc00 hcc01 hcc02 hcc03 hcc04 hcc05 hyc00 hyc01 hyc02 hyc03 hyc04 hyc05; have hcq0 := own_cellAt_mid QE.out (j := 0) rfl; have hcq1 := own_cellAt_mid QE.out (j := 1) rfl; have hcq2 := own_cellAt_mid QE.out (j := 2) rfl; have hcq3 := own_cellAt_mid QE.out (j := 3) rfl; have hcq4 := own_cellAt_mid QE.out (j := 4) rfl; have hcq5 := own_cellAt_mid QE.out (j := 5) rfl; have hyq0 := own_frozen_of QE.out 0; have hyq1 := own_frozen_of QE.out 1; have hyq2 := own_frozen_of QE.out 2; have hyq3 := own_frozen_of QE.out 3; have hyq4 := own_frozen_of QE.out 4; have hyq5 := own_frozen_of QE.out 5)
              clear hcq0 hcq1 hcq2 hcq3 hcq4 hcq5 hyq0 hyq1 hyq2 hyq3 hyq4 hyq5
              have S0 := Lib.hid (QE.out.stored 0 (.string ⟨#[]⟩))
              have S1 := Lib.hid (S0.out.1.stored 1 (.int .i64 0))
              have S2 := Lib.hid (S1.out.1.stored 2 (.int .i64 0))
              have S3 := Lib.hid (S2.out.1.stored 3 (.string ⟨#[]⟩))
              have S4 := Lib.hid (S3.out.1.stored 4 (.int .i64 0))
              have S5 := Lib.hid (S4.out.1.stored 5 (.int .i64 0))
              have k0 := own_cellAt_mid S5.out.1 (j := 0) rfl
              have k1 := own_cellAt_mid S5.out.1 (j := 1) rfl
              have k2 := own_cellAt_mid S5.out.1 (j := 2) rfl
              have k3 := own_cellAt_mid S5.out.1 (j := 3) rfl
              have k4 := own_cellAt_mid S5.out.1 (j := 4) rfl
              have k5 := own_cellAt_mid S5.out.1 (j := 5) rfl
              exact bodyPost_ret (v := .tuple #[.agg #[.string ⟨#[]⟩, .int .i64 0, .int .i64 0, .string ⟨#[]⟩, .int .i64 0, .int .i64 0], .bool false]) (by simp [results, Tryd.results24, go_sem, k0, k1, k2, k3, k4, k5]) rfl ⟨by rw [H2.out] <;> rfl, Gx.G GE.out (Gx.trans (Gx.trans (Gx.trans (Gx.trans (Gx.trans S0.out.2 S1.out.2) S2.out.2) S3.out.2) S4.out.2) S5.out.2) (by intro i hi; cases hi; exact Nat.le_refl _)⟩
            · rw [hv] at H KO1
              have H2 := Lib.hid (show R = ((⟨i, tv, 0, g, 3, 0⟩ : SCue), true) by rw [H.out]; rfl)
              clear hv
              go_wp2_with (go_at_call 44; (with_reducible refine KO1.out.mono ?_); rintro e w5 ⟨rfl, g5⟩; have GE := Lib.hid (G6.out.trans g5); have QE := Lib.hid (own_G Q6.out g5); have CE := Lib.hid (own_G C6.out g5); clear g5; clear hcc00 hcc01 hcc02 hcc03 hcc04 hcc05 hyc00 hyc01 hyc02 hyc03 hyc04 hyc05; have hcq0 := own_cellAt_mid QE.out (j := 0) rfl; have hcq1 := own_cellAt_mid QE.out (j := 1) rfl; have hcq2 := own_cellAt_mid QE.out (j := 2) rfl; have hcq3 := own_cellAt_mid QE.out (j := 3) rfl; have hcq4 := own_cellAt_mid QE.out (j := 4) rfl; have hcq5 := own_cellAt_mid QE.out (j := 5) rfl; have hyq0 := own_frozen_of QE.out 0; have hyq1 := own_frozen_of QE.out 1; have hyq2 := own_frozen_of QE.out 2; have hyq3 := own_frozen_of QE.out 3; have hyq4 := own_frozen_of QE.out 4; have hyq5 := own_frozen_of QE.out 5; have hce0 := own_cellAt_mid CE.out (j := 0) rfl; have hce1 := own_cellAt_mid CE.out (j := 1) rfl; have hce2 := own_cellAt_mid CE.out (j := 2) rfl; have hce3 := own_cellAt_mid CE.out (j := 3) rfl; have hce4 := own_cellAt_mid CE.out (j := 4) rfl; have hce5 := own_cellAt_mid CE.out (j := 5) rfl; have hye0 := own_frozen_of CE.out 0; have hye1 := own_frozen_of CE.out 1; have hye2 := own_frozen_of CE.out 2; have hye3 := own_frozen_of CE.out 3; have hye4 := own_frozen_of CE.out 4; have hye5 := own_frozen_of CE.out 5)
              clear hcq0 hcq1 hcq2 hcq3 hcq4 hcq5 hyq0 hyq1 hyq2 hyq3 hyq4 hyq5
              clear hce0 hce1 hce2 hce3 hce4 hce5 hye0 hye1 hye2 hye3 hye4 hye5
              have S0 := Lib.hid (QE.out.stored 0 (.string i))
              have S1 := Lib.hid (S0.out.1.stored 1 (.int .i64 tv))
              have S2 := Lib.hid (S1.out.1.stored 2 (.int .i64 0))
              have S3 := Lib.hid (S2.out.1.stored 3 (.string g))
              have S4 := Lib.hid (S3.out.1.stored 4 (.int .i64 3))
              have S5 := Lib.hid (S4.out.1.stored 5 (.int .i64 0))
              have k0 := own_cellAt_mid S5.out.1 (j := 0) rfl
              have k1 := own_cellAt_mid S5.out.1 (j := 1) rfl
              have k2 := own_cellAt_mid S5.out.1 (j := 2) rfl
              have k3 := own_cellAt_mid S5.out.1 (j := 3) rfl
              have k4 := own_cellAt_mid S5.out.1 (j := 4) rfl
              have k5 := own_cellAt_mid S5.out.1 (j := 5) rfl
              exact bodyPost_ret (v := .tuple #[.agg #[.string i, .int .i64 tv, .int .i64 0, .string g, .int .i64 3, .int .i64 0], .bool true]) (by simp [results, Tryd.results24, go_sem, k0, k1, k2, k3, k4, k5]) rfl ⟨by rw [H2.out] <;> rfl, Gx.G GE.out (Gx.trans (Gx.trans (Gx.trans (Gx.trans (Gx.trans S0.out.2 S1.out.2) S2.out.2) S3.out.2) S4.out.2) S5.out.2) (by intro i hi; cases hi; exact Nat.le_refl _)⟩
        · have HK := Lib.hid (show cuK a m = 0 by unfold cuK; rw [if_neg (fun e => a1 e.1), if_neg (fun e => a2 e.1), if_neg (fun e => m1 e.2)])
          have l1 : ((m : Int) == 0) = false := by rw [beq_eq_false_iff_ne]; omega
          clear a1 a2 a3 m1
          have H := Lib.hid (HBAD0.out (HK.out))
          have hcq0 := own_cellAt_mid HQ2.out (j := 0) rfl
          have hcq1 := own_cellAt_mid HQ2.out (j := 1) rfl
          have hcq2 := own_cellAt_mid HQ2.out (j := 2) rfl
          have hcq3 := own_cellAt_mid HQ2.out (j := 3) rfl
          have hcq4 := own_cellAt_mid HQ2.out (j := 4) rfl
          have hcq5 := own_cellAt_mid HQ2.out (j := 5) rfl
          have hyq0 := own_frozen_of HQ2.out 0
          have hyq1 := own_frozen_of HQ2.out 1
          have hyq2 := own_frozen_of HQ2.out 2
          have hyq3 := own_frozen_of HQ2.out 3
          have hyq4 := own_frozen_of HQ2.out 4
          have hyq5 := own_frozen_of HQ2.out 5
          go_wp2
          clear hcq0 hcq1 hcq2 hcq3 hcq4 hcq5 hyq0 hyq1 hyq2 hyq3 hyq4 hyq5
          have S0 := Lib.hid (HQ2.out.stored 0 (.string ⟨#[]⟩))
          have S1 := Lib.hid (S0.out.1.stored 1 (.int .i64 0))
          have S2 := Lib.hid (S1.out.1.stored 2 (.int .i64 0))
          have S3 := Lib.hid (S2.out.1.stored 3 (.string ⟨#[]⟩))
          have S4 := Lib.hid (S3.out.1.stored 4 (.int .i64 0))
          have S5 := Lib.hid (S4.out.1.stored 5 (.int .i64 0))
          have k0 := own_cellAt_mid S5.out.1 (j := 0) rfl
          have k1 := own_cellAt_mid S5.out.1 (j := 1) rfl
          have k2 := own_cellAt_mid S5.out.1 (j := 2) rfl
          have k3 := own_cellAt_mid S5.out.1 (j := 3) rfl
          have k4 := own_cellAt_mid S5.out.1 (j := 4) rfl
          have k5 := own_cellAt_mid S5.out.1 (j := 5) rfl
          exact bodyPost_ret (v := .tuple #[.agg #[.string ⟨#[]⟩, .int .i64 0, .int .i64 0, .string ⟨#[]⟩, .int .i64 0, .int .i64 0], .bool false]) (by simp [results, Tryd.results24, go_sem, k0, k1, k2, k3, k4, k5]) rfl ⟨by rw [H.out] <;> rfl, Gx.G G0.out (Gx.trans (Gx.trans (Gx.trans (Gx.trans (Gx.trans S0.out.2 S1.out.2) S2.out.2) S3.out.2) S4.out.2) S5.out.2) (by intro i hi; cases hi; exact Nat.le_refl _)⟩
      · have f1 : (a.toList == [115, 101, 116]) = false := str_no a1
        have f2 : (a.toList == [102, 97, 100, 101]) = false := str_no a2
        have f3 : (a.toList == [115, 116, 111, 112]) = false := str_no a3
        have HK := Lib.hid (show cuK a m = 0 by unfold cuK; rw [if_neg (fun e => a1 e.1), if_neg (fun e => a2 e.1), if_neg (fun e => a3 e.1)])
        clear a1 a2 a3
        have H := Lib.hid (HBAD0.out (HK.out))
        have hcq0 := own_cellAt_mid HQ2.out (j := 0) rfl
        have hcq1 := own_cellAt_mid HQ2.out (j := 1) rfl
        have hcq2 := own_cellAt_mid HQ2.out (j := 2) rfl
        have hcq3 := own_cellAt_mid HQ2.out (j := 3) rfl
        have hcq4 := own_cellAt_mid HQ2.out (j := 4) rfl
        have hcq5 := own_cellAt_mid HQ2.out (j := 5) rfl
        have hyq0 := own_frozen_of HQ2.out 0
        have hyq1 := own_frozen_of HQ2.out 1
        have hyq2 := own_frozen_of HQ2.out 2
        have hyq3 := own_frozen_of HQ2.out 3
        have hyq4 := own_frozen_of HQ2.out 4
        have hyq5 := own_frozen_of HQ2.out 5
        go_wp2
        clear hcq0 hcq1 hcq2 hcq3 hcq4 hcq5 hyq0 hyq1 hyq2 hyq3 hyq4 hyq5
        have S0 := Lib.hid (HQ2.out.stored 0 (.string ⟨#[]⟩))
        have S1 := Lib.hid (S0.out.1.stored 1 (.int .i64 0))
        have S2 := Lib.hid (S1.out.1.stored 2 (.int .i64 0))
        have S3 := Lib.hid (S2.out.1.stored 3 (.string ⟨#[]⟩))
        have S4 := Lib.hid (S3.out.1.stored 4 (.int .i64 0))
        have S5 := Lib.hid (S4.out.1.stored 5 (.int .i64 0))
        have k0 := own_cellAt_mid S5.out.1 (j := 0) rfl
        have k1 := own_cellAt_mid S5.out.1 (j := 1) rfl
        have k2 := own_cellAt_mid S5.out.1 (j := 2) rfl
        have k3 := own_cellAt_mid S5.out.1 (j := 3) rfl
        have k4 := own_cellAt_mid S5.out.1 (j := 4) rfl
        have k5 := own_cellAt_mid S5.out.1 (j := 5) rfl
        exact bodyPost_ret (v := .tuple #[.agg #[.string ⟨#[]⟩, .int .i64 0, .int .i64 0, .string ⟨#[]⟩, .int .i64 0, .int .i64 0], .bool false]) (by simp [results, Tryd.results24, go_sem, k0, k1, k2, k3, k4, k5]) rfl ⟨by rw [H.out] <;> rfl, Gx.G G0.out (Gx.trans (Gx.trans (Gx.trans (Gx.trans (Gx.trans S0.out.2 S1.out.2) S2.out.2) S3.out.2) S4.out.2) S5.out.2) (by intro i hi; cases hi; exact Nat.le_refl _)⟩
end Go.Proofs.YtecakcgkibemaaaDoor
