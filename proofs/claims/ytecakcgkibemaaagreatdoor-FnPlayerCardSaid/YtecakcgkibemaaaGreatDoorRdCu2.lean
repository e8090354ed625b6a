/-
  Walks: a cue read from a text, by the program.
-/
import Derived.Test.YtecakcgkibemaaaGreatDoorRdCu
import Derived.Deep.AppendLies
namespace Go.Proofs.YtecakcgkibemaaaGreatDoor
open Go.RowKit

theorem step_append_own1 {P : Program} {w : World} {ops : Array Oper} {o : Oper} {a : Act} {K : Act → World → Prop} {Q : Exit → Act → World → Prop} {E : Prop} (hgd : o.guard = none) (s x : Operand) (t : TypeId)
    (ho : o.op = .call { callee := .builtin .append, args := #[s, x], argTypes := #[t, t] })
    (base : Nat) (e : TypeId) (i : TypeInfo) (z : Value) (size bytes : Nat) (ht : P.underlying t = some (.slice e)) (hi : P.info? e = some i) (hz : i.zero = some z)
    (hsize : i.size = size) (hby : i.bytes = bytes) (hzs : z.cells.size = size) (hsz : 0 < size)
    (v : Value) (n : Nat) (xs : List Value) (hs : a.eval s = v) (hown : w.ownsRow base e size v n xs)
    (ad : Addr) (m c : Nat) (news : List Value) (hx : a.eval x = .slice (some ad) m c) (hl : news.length = m * size) (hnews : ∀ j u, news[j]? = some u → w.cell? (ad.add j) = some u) (h1 : ∀ u ∈ news, u.oneCell' = true)
    (h63 : n + m ≤ maxLen) (hbytes : (n + m) * bytes ≤ 140737488355328) (hbase : base ≤ w.heap.size)
    (h : ∀ v' w', w'.ownsRow base e size v' (n + m) (xs ++ news) → w.grownBy w' v.ownBlock → K (a.put o.dst v') w') :
    if Region.wanted o (yielded ops a.tmps) = true then Oper.wp P o a w K Q else E := by
  have hw : Region.wanted o (yielded ops a.tmps) = true := by simp [Region.wanted, hgd]
  rw [if_pos hw]
  exact wp_append_own w s x t ho base e i z size bytes ht hi hz hsize hby hzs hsz v n xs hs hown ad m c news hx hl hnews h1 h63 hbytes hbase fun v' w' h2 h3 _ => h v' w' h2 h3
theorem news_at {W : World} {b T n c gW : Nat} {P N : List ByteArray} (h : W.ownsRow b T 1 (.slice (some ⟨gW, 0, none⟩) n c) n (P.flatMap sv)) (hP : ∀ k : Nat, P[4 + k]? = N[k]?) : ∀ (j : Nat) (u : Value), (N.map Value.string)[j]? = some u → W.cell? ((⟨gW, 4, none⟩ : Addr).add j) = some u := fun j u hj => by
  rw [Addr.add_lit]
  refine own_cellAt_mid h (j := 4 + j) (u := u) ?_
  rw [flat_svc, List.getElem?_map, hP j, ← List.getElem?_map]
  exact hj
theorem news_one (N : List ByteArray) : ∀ u ∈ N.map Value.string, u.oneCell' = true := fun u hu => by
  obtain ⟨x, -, rfl⟩ := List.mem_map.1 hu
  rfl
attribute [local go_sem ↓] Go.wp_at_zero Go.wp_at_succ
set_option maxRecDepth 20000 in
set_option maxHeartbeats 16000000 in
theorem iReadCue_any (s : ByteArray) (hs : s.size ≤ 1048576) (w : World) (hE : Env w) :
    Calls Tryz.prog 18 #[.string s] w (rcuE w (rcuR s)) := by
  unfold rcuE
  obtain ⟨i0, hi, hz0, hz1, hz2⟩ := info_parts infoString
  have HI := Lib.hid (And.intro hi (And.intro hz0 (And.intro hz1 hz2)))
  clear hi hz0 hz1 hz2
  have HE := Lib.hid hE
  have OQ0 := Lib.hid (own_new (w := w) (base := w.heap.size) (n := 1) (cap := 1) (size := 6) (e := 49) (cur := #[.string ⟨#[]⟩, .int .i64 0, .int .i64 0, .string ⟨#[]⟩, .int .i64 0, .int .i64 0]) (Nat.le_refl _) (by decide) (by decide) rfl)
  have GA := Lib.hid ((G.refl w).alloc (.cells #[.string ⟨#[]⟩, .int .i64 0, .int .i64 0, .string ⟨#[]⟩, .int .i64 0, .int .i64 0] 49))
  have KS := Lib.hid (fun (W : World) (g : G w W) => SplitWords_any s (by omega) W (HE.out.G g))
  have HPM := Lib.hid (fun (y : ByteArray) (hy : y ∈ wordsS s) => (splitS_mem (List.mem_filter.1 hy).1).1)
  have HL1 := Lib.hid (fun (h : (wordsS s).length < 4) => cu_lenW h)
  have HEQ := Lib.hid (fun (i t g a : ByteArray) (N : List ByteArray) (h : wordsS s = i :: t :: g :: a :: N) => cu_eqW h)
  have hpl : (wordsS s).length ≤ s.size + 1 := Nat.le_trans (List.length_filter_le _ _) (splitS_len 32 s).2
  obtain ⟨R, HRR⟩ : ∃ R, Hid (rcuR s = R) := ⟨_, rfl⟩
  rw [HRR.out] at HL1 HEQ ⊢
  obtain ⟨P, HP⟩ : ∃ P, Hid (wordsS s = P) := ⟨_, rfl⟩
  rw [HP.out] at HPM KS HL1 HEQ hpl
  by_cases l1 : P.length < 4
  · have H := Lib.hid (HL1.out l1)
    obtain ⟨k, Hk⟩ : ∃ k, Hid (P.length = k) := ⟨_, rfl⟩
    rw [Hk.out] at l1
    have hd : (k : Int) < 4 := by omega
    clear hpl
    go_enter Tryz.func18, Tryz.ntmps18
    go_wp2_with (go_at_call 16; (with_reducible refine (KS.out _ GA.out).mono ?_); rintro e w1 ⟨v1, rfl, o1, g1⟩; obtain ⟨A1, c1, rfl, hc1⟩ := own_sl o1; have G1 := Lib.hid (GA.out.trans g1); have OQ1 := Lib.hid (own_G OQ0.out g1); clear o1 g1; rw [Hk.out]; have hcq0 := own_cellAt_mid OQ1.out (j := 0) rfl; have hcq1 := own_cellAt_mid OQ1.out (j := 1) rfl; have hcq2 := own_cellAt_mid OQ1.out (j := 2) rfl; have hcq3 := own_cellAt_mid OQ1.out (j := 3) rfl; have hcq4 := own_cellAt_mid OQ1.out (j := 4) rfl; have hcq5 := own_cellAt_mid OQ1.out (j := 5) rfl; have hyq0 := own_frozen_of OQ1.out 0; have hyq1 := own_frozen_of OQ1.out 1; have hyq2 := own_frozen_of OQ1.out 2; have hyq3 := own_frozen_of OQ1.out 3; have hyq4 := own_frozen_of OQ1.out 4; have hyq5 := own_frozen_of OQ1.out 5)
    clear hcq0 hcq1 hcq2 hcq3 hcq4 hcq5 hyq0 hyq1 hyq2 hyq3 hyq4 hyq5
    have S0 := Lib.hid (OQ1.out.stored 0 (.string ⟨#[]⟩))
    have S1 := Lib.hid (S0.out.1.stored 1 (.int .i64 0))
    have S2 := Lib.hid (S1.out.1.stored 2 (.int .i64 0))
    have S3 := Lib.hid (S2.out.1.stored 3 (.string ⟨#[]⟩))
    have S4 := Lib.hid (S3.out.1.stored 4 (.int .i64 0))
    have S5 := Lib.hid (S4.out.1.stored 5 (.int .i64 0))
    have k0 := own_cellAt_mid S5.out.1 (j := 0) rfl
    have k1 := own_cellAt_mid S5.out.1 (j := 1) rfl
    have k2 := own_cellAt_mid S5.out.1 (j := 2) rfl
    have k3 := own_cellAt_mid S5.out.1 (j := 3) rfl
    have k4 := own_cellAt_mid S5.out.1 (j := 4) rfl
    have k5 := own_cellAt_mid S5.out.1 (j := 5) rfl
    exact bodyPost_ret (v := .tuple #[.agg #[.string ⟨#[]⟩, .int .i64 0, .int .i64 0, .string ⟨#[]⟩, .int .i64 0, .int .i64 0], .bool false]) (by simp [results, Tryz.results18, go_sem, k0, k1, k2, k3, k4, k5]) rfl ⟨by rw [H.out] <;> rfl, Gx.G G1.out (Gx.trans (Gx.trans (Gx.trans (Gx.trans (Gx.trans S0.out.2 S1.out.2) S2.out.2) S3.out.2) S4.out.2) S5.out.2) (by intro i hi; cases hi; exact Nat.le_refl _)⟩
  obtain ⟨i, t, g, a, N, hP⟩ := four_of l1
  have HE2 := Lib.hid (HEQ.out i t g a N hP)
  obtain ⟨m, Hm⟩ : ∃ m, Hid (N.length = m) := ⟨_, rfl⟩
  have Hn : Hid (P.length = m + 4) := Lib.hid (by rw [hP, ← Hm.out]; simp)
  have HP0 := Lib.hid (show P[0]? = some i by rw [hP]; rfl)
  have HP1 := Lib.hid (show P[1]? = some t by rw [hP]; rfl)
  have HP2 := Lib.hid (show P[2]? = some g by rw [hP]; rfl)
  have HP3 := Lib.hid (show P[3]? = some a by rw [hP]; rfl)
  have HPN := Lib.hid (fun (k : Nat) => (show P[4 + k]? = N[k]? by rw [hP, Nat.add_comm]; rfl))
  have hsi := HPM.out i (by rw [hP]; simp)
  have hst := HPM.out t (by rw [hP]; simp)
  have hsg := HPM.out g (by rw [hP]; simp)
  have HSN := Lib.hid (fun (y : ByteArray) (hy : y ∈ t :: N) => HPM.out y (by rw [hP]; simp only [List.mem_cons] at hy ⊢; rcases hy with h | h; exact .inr (.inl h); exact .inr (.inr (.inr (.inr h)))))
  have hml : maxLen = 9223372036854775807 := rfl
  rw [Hn.out] at hpl
  have hlt0 : ¬ (((m + 4 : Nat) : Int) < 4) := by omega
  have hx0 : 0 < m + 4 := by omega
  have hX0 : (0 : Int) < ((m + 4 : Nat) : Int) := by omega
  have hx1 : 1 < m + 4 := by omega
  have hX1 : (1 : Int) < ((m + 4 : Nat) : Int) := by omega
  have hx2 : 2 < m + 4 := by omega
  have hX2 : (2 : Int) < ((m + 4 : Nat) : Int) := by omega
  have hx3 : 3 < m + 4 := by omega
  have hX3 : (3 : Int) < ((m + 4 : Nat) : Int) := by omega
  clear hP l1 HL1 HEQ
  go_enter Tryz.func18, Tryz.ntmps18
  go_wp2_with (go_at_call 16; (with_reducible refine (KS.out _ GA.out).mono ?_); rintro e w1 ⟨v1, rfl, o1, g1⟩; obtain ⟨A1, c1, rfl, hc1⟩ := own_sl o1; obtain ⟨gW, rfl⟩ := own_head o1 (by rw [Hn.out]; omega); have G1 := Lib.hid (GA.out.trans g1); have OQ1 := Lib.hid (own_G OQ0.out g1); have OP1 := Lib.hid o1; have h0 := own_cellAt_mid o1 (j := 0) (u := .string i) (by rw [flat_svc, List.getElem?_map, HP0.out]; rfl); have h1 := own_cellAt_mid o1 (j := 1) (u := .string t) (by rw [flat_svc, List.getElem?_map, HP1.out]; rfl); have h2 := own_cellAt_mid o1 (j := 2) (u := .string g) (by rw [flat_svc, List.getElem?_map, HP2.out]; rfl); have h3 := own_cellAt_mid o1 (j := 3) (u := .string a) (by rw [flat_svc, List.getElem?_map, HP3.out]; rfl); have hgW := (o1.lt gW rfl); rw [Hn.out] at OP1 hc1; have HH0 := Lib.hid h0; have HH2 := Lib.hid h2; have HH3 := Lib.hid h3; clear o1 g1; rw [Hn.out])
  have hc4 : m + 4 ≤ c1 := hc1
  have hy1 : (1 : Int) < (m : Int) + 4 := by omega
  have hy4 : (4 : Int) ≤ (m : Int) + 4 := by omega
  have HH1 := Lib.hid h1
  clear h0 h2 h3
  have hrow : w.heap.size ≤ w.heap.size := Nat.le_refl _
  clear hrow
  obtain ⟨rb, HRB⟩ : ∃ b : Nat, Hid (w1.ownsRow b 9 1 (.slice (some ⟨gW, 0, none⟩) (m + 4) c1) (m + 4) (P.flatMap sv)) := ⟨_, OP1⟩
  obtain ⟨ad, HIF, HNW⟩ : ∃ ad : Addr, Hid ((if c1 = 4 then some (⟨gW, 0, none⟩ : Addr) else some ⟨gW, 4, none⟩) = some ad) ∧ Hid (∀ (W : World), G w1 W → ∀ (j : Nat) (u : Value), (N.map Value.string)[j]? = some u → W.cell? (ad.add j) = some u) := by
    by_cases h4 : c1 = 4
    · refine ⟨⟨gW, 0, none⟩, Lib.hid (if_pos h4), Lib.hid (fun W _ j u hj => ?_)⟩
      have hN : N = [] := List.length_eq_zero_iff.1 (by rw [Hm.out]; omega)
      rw [hN] at hj
      simp at hj
    · exact ⟨⟨gW, 4, none⟩, Lib.hid (if_neg h4), Lib.hid (fun W gg => news_at (own_G HRB.out gg) HPN.out)⟩
  have KN := Lib.hid (fun (A : Option Addr) (c : Nat) (W : World) (ho : W.ownsRow w1.heap.size 9 1 (.slice A (1 + m) c) (1 + m) ([.string t] ++ N.map Value.string)) (g : G w W) => readNumbers_any A (1 + m) c (t :: N) W (rd_strs (show W.ownsRow w1.heap.size 9 1 (.slice A (1 + m) c) (1 + m) ((t :: N).flatMap sv) by rw [flat_svc]; exact ho)) (by rw [List.length_cons, Hm.out]; omega) (by omega) (fun x hx => by have := HSN.out x hx; omega) (HE.out.G g))
  have hif := HIF.out
  have HN2 := Lib.hid (show numsR (t :: N) = if (t :: N).all okN = true then ((t :: N).map valN, true) else ([], false) from rfl)
  cases hok : (t :: N).all okN
  · have H := Lib.hid (show R = (cuZ, false) by
      rw [HE2.out, if_neg]
      rintro ⟨k1, k2, -⟩
      rw [List.all_cons, k1, k2] at hok
      cases hok)
    have HN3 := Lib.hid (show numsR (t :: N) = ([], false) by rw [HN2.out, if_neg (by rw [hok]; simp)])
    rw [HN3.out] at KN
    unfold ResB at KN
    simp only [List.length_nil] at KN
    clear hok
    go_region_held3 (fun w' => w'.cell? ⟨gW, 1, none⟩ = some (.string t)) (first | go_keep | exact GW6.out.cell HH1.out | exact G5.out.cell HH1.out) (first | ((refine step_append_own1 (by rfl) (.tmp 18) (.tmp 20) 36 (by rfl) w1.heap.size 9 i0 (.string ⟨#[]⟩) 1 16 Tryz.underlying36 HI.out.1 HI.out.2.1 HI.out.2.2.1 HI.out.2.2.2 rfl (by decide) _ 1 _ (by rfl) (World.ownsRow_lit (base := w1.heap.size) (e := 9) (size := 1) w1.drew #[.string t] 1 (Nat.le_refl _) (by decide) rfl) ad m (c1 - 4) (N.map Value.string) (by first | rfl | exact congrArg (fun p => Value.slice p m (c1 - 4)) HIF.out) (by rw [List.length_map, Nat.mul_one]; exact Hm.out) (HNW.out _ ((G.refl w1).drew.alloc _)) (news_one N) (by rw [hml]; omega) (by omega) (by simp [World.drew]) ?_; intro v5 w5 hown5 hgrow5; have G5 := Lib.hid (((G.refl w1).drew.alloc (.cells #[.string t] 9)).grown hgrow5 (fun i hi => by simp only [Value.ownBlock, Option.some.injEq] at hi; have : w1.drew.heap.size = w1.heap.size := rfl; omega)); obtain ⟨A5, c5, rfl, hc5⟩ := own_sl hown5; have O5 := Lib.hid hown5; clear hown5 hgrow5)) | ((go_at_call 17; (with_reducible refine (KN.out A5 c5 _ O5.out (G1.out.trans G5.out)).mono ?_); rintro e w6 ⟨A6, c6, rfl, g6, o6⟩; have G6 := Lib.hid (G1.out.trans (G5.out.trans g6)); have OQ6 := Lib.hid (own_G OQ1.out (G5.out.trans g6)); have OP6 := Lib.hid (own_G OP1.out (G5.out.trans g6)); have O6 := Lib.hid o6; have GW6 := Lib.hid (G5.out.trans g6); clear o6)))
    clear h1 hif
    have hcq0 := own_cellAt_mid OQ6.out (j := 0) rfl
    have hcq1 := own_cellAt_mid OQ6.out (j := 1) rfl
    have hcq2 := own_cellAt_mid OQ6.out (j := 2) rfl
    have hcq3 := own_cellAt_mid OQ6.out (j := 3) rfl
    have hcq4 := own_cellAt_mid OQ6.out (j := 4) rfl
    have hcq5 := own_cellAt_mid OQ6.out (j := 5) rfl
    have hyq0 := own_frozen_of OQ6.out 0
    have hyq1 := own_frozen_of OQ6.out 1
    have hyq2 := own_frozen_of OQ6.out 2
    have hyq3 := own_frozen_of OQ6.out 3
    have hyq4 := own_frozen_of OQ6.out 4
    have hyq5 := own_frozen_of OQ6.out 5
    go_wp2
    clear hcq0 hcq1 hcq2 hcq3 hcq4 hcq5 hyq0 hyq1 hyq2 hyq3 hyq4 hyq5
    have S0 := Lib.hid (OQ6.out.stored 0 (.string ⟨#[]⟩))
    have S1 := Lib.hid (S0.out.1.stored 1 (.int .i64 0))
    have S2 := Lib.hid (S1.out.1.stored 2 (.int .i64 0))
    have S3 := Lib.hid (S2.out.1.stored 3 (.string ⟨#[]⟩))
    have S4 := Lib.hid (S3.out.1.stored 4 (.int .i64 0))
    have S5 := Lib.hid (S4.out.1.stored 5 (.int .i64 0))
    have k0 := own_cellAt_mid S5.out.1 (j := 0) rfl
    have k1 := own_cellAt_mid S5.out.1 (j := 1) rfl
    have k2 := own_cellAt_mid S5.out.1 (j := 2) rfl
    have k3 := own_cellAt_mid S5.out.1 (j := 3) rfl
    have k4 := own_cellAt_mid S5.out.1 (j := 4) rfl
    have k5 := own_cellAt_mid S5.out.1 (j := 5) rfl
    exact bodyPost_ret (v := .tuple #[.agg #[.string ⟨#[]⟩, .int .i64 0, .int .i64 0, .string ⟨#[]⟩, .int .i64 0, .int .i64 0], .bool false]) (by simp [results, Tryz.results18, go_sem, k0, k1, k2, k3, k4, k5]) rfl ⟨by rw [H.out] <;> rfl, Gx.G G6.out (Gx.trans (Gx.trans (Gx.trans (Gx.trans (Gx.trans S0.out.2 S1.out.2) S2.out.2) S3.out.2) S4.out.2) S5.out.2) (by intro i hi; cases hi; exact Nat.le_refl _)⟩
  have HN3 := Lib.hid (show numsR (t :: N) = ((t :: N).map valN, true) by rw [HN2.out, if_pos hok])
  rw [HN3.out] at KN
  unfold ResB at KN
  simp only [List.length_cons, List.length_map] at KN
  rw [Hm.out] at KN
  go_region_held3 (fun w' => w'.cell? ⟨gW, 1, none⟩ = some (.string t)) (first | go_keep | exact GW6.out.cell HH1.out | exact G5.out.cell HH1.out) (first | ((refine step_append_own1 (by rfl) (.tmp 18) (.tmp 20) 36 (by rfl) w1.heap.size 9 i0 (.string ⟨#[]⟩) 1 16 Tryz.underlying36 HI.out.1 HI.out.2.1 HI.out.2.2.1 HI.out.2.2.2 rfl (by decide) _ 1 _ (by rfl) (World.ownsRow_lit (base := w1.heap.size) (e := 9) (size := 1) w1.drew #[.string t] 1 (Nat.le_refl _) (by decide) rfl) ad m (c1 - 4) (N.map Value.string) (by first | rfl | exact congrArg (fun p => Value.slice p m (c1 - 4)) HIF.out) (by rw [List.length_map, Nat.mul_one]; exact Hm.out) (HNW.out _ ((G.refl w1).drew.alloc _)) (news_one N) (by rw [hml]; omega) (by omega) (by simp [World.drew]) ?_; intro v5 w5 hown5 hgrow5; have G5 := Lib.hid (((G.refl w1).drew.alloc (.cells #[.string t] 9)).grown hgrow5 (fun i hi => by simp only [Value.ownBlock, Option.some.injEq] at hi; have : w1.drew.heap.size = w1.heap.size := rfl; omega)); obtain ⟨A5, c5, rfl, hc5⟩ := own_sl hown5; have O5 := Lib.hid hown5; clear hown5 hgrow5)) | ((go_at_call 17; (with_reducible refine (KN.out A5 c5 _ O5.out (G1.out.trans G5.out)).mono ?_); rintro e w6 ⟨A6, c6, rfl, g6, o6⟩; have G6 := Lib.hid (G1.out.trans (G5.out.trans g6)); have OQ6 := Lib.hid (own_G OQ1.out (G5.out.trans g6)); have OP6 := Lib.hid (own_G OP1.out (G5.out.trans g6)); have O6 := Lib.hid o6; have GW6 := Lib.hid (G5.out.trans g6); clear o6)))
  clear h1 hif
  have hs6 := GW6.out.size
  obtain ⟨gN, rfl⟩ := own_head O6.out (by omega)
  have hgN := O6.out.lt gN rfl
  obtain ⟨tv, HTV⟩ : ∃ x, Hid (valN t = x) := ⟨_, rfl⟩
  obtain ⟨VL, HVL⟩ : ∃ x, Hid (N.map valN = x) := ⟨_, rfl⟩
  have O6b := Lib.hid (show w6.ownsRow w5.heap.size 2 1 (.slice (some ⟨gN, 0, none⟩) (m + 1) c6) (m + 1) ((tv :: VL).flatMap iv) by rw [← HTV.out, ← HVL.out]; exact O6.out)
  clear O6
  have hn0 := own_cellAt_mid O6b.out (j := 0) (u := .int .i64 tv) rfl
  have hw0 := GW6.out.cell HH0.out
  have hw2 := GW6.out.cell HH2.out
  have hz0 : 0 < m + 1 := by omega
  have hZ0 : (0 : Int) < (m : Int) + 1 := by omega
  have hZ1 : (0 : Int) < ((m + 1 : Nat) : Int) := by omega
  have hZ2 : (2 : Int) < (m : Int) + 4 := by omega
  have hZ3 : (0 : Int) < (m : Int) + 4 := by omega
  go_wp2
  go_region_held3 (fun w' => w'.cell? ⟨gW, 0, none⟩ = some (.string i) ∧ w'.cell? ⟨gW, 2, none⟩ = some (.string g) ∧ w'.cell? ⟨gN, 0, none⟩ = some (.int .i64 tv)) (first | go_keep) (fail)
  clear hn0 hw0 hw2 hz0 hZ0 hZ1 hZ2 hZ3
  have OC := Lib.hid (own_new (w := w6) (base := w6.heap.size) (n := 1) (cap := 1) (size := 6) (e := 49) (cur := #[.string i, .int .i64 tv, .int .i64 0, .string g, .int .i64 0, .int .i64 0]) (Nat.le_refl _) (by decide) (by decide) rfl)
  obtain ⟨wx, HWX⟩ : ∃ wx, Hid ((w6.alloc (.cells #[.string i, .int .i64 tv, .int .i64 0, .string g, .int .i64 0, .int .i64 0] 49)).drew = wx) := ⟨_, rfl⟩
  have GX := Lib.hid (show G w6 wx by rw [← HWX.out]; exact ((G.refl w6).alloc _).drew)
  have HC := Lib.hid (show wx.ownsRow w6.heap.size 49 6 (.slice (some ⟨w6.heap.size, 0, none⟩) 1 1) 1 [.string i, .int .i64 tv, .int .i64 0, .string g, .int .i64 0, .int .i64 0] by rw [← HWX.out]; exact own_G OC.out (G.refl _).drew)
  have HM := Lib.hid (own_G O6b.out GX.out)
  have HQ2 := Lib.hid (own_G OQ6.out GX.out)
  have HPr := Lib.hid (own_G OP6.out GX.out)
  have G0 := Lib.hid (G6.out.trans GX.out)
  have hqw : w.heap.size < w6.heap.size := by have := (OQ6.out.lt w.heap.size rfl).2; omega
  rw [HWX.out]
  clear OC O6b OQ6 OP6 HWX
  obtain ⟨qb, HQB⟩ : ∃ x : Nat, x = w6.heap.size := ⟨_, rfl⟩
  rw [← HQB] at HC hqw hgN ⊢
  clear HQB
  have hpa := own_cellAt_mid HPr.out (j := 3) (u := .string a) (by rw [flat_svc, List.getElem?_map, HP3.out]; rfl)
  have hy3 : (3 : Int) < (m : Int) + 4 := by omega
  have HX0 := Lib.hid (show ∀ x : SCue, cuMk i tv g (cuK2 a m) VL = x → R = if vcuB x = true ∧ cueT x = s then (x, true) else (cuZ, false) from fun x hx => by
    rw [List.all_cons, Bool.and_eq_true] at hok
    have e : cuMk i (valN t) g (cuK2 a N.length) (N.map valN) = x := by rw [HTV.out, Hm.out, HVL.out]; exact hx
    rw [HE2.out, e]
    by_cases hv : vcuB x = true ∧ cueT x = s
    · rw [if_pos ⟨hok.1, hok.2, hv.1, hv.2⟩, if_pos hv]
    · rw [if_neg (fun k => hv k.2.2), if_neg hv])
  have HLV := Lib.hid (fun (k : Nat) (hk : k < m) => (show ∃ v, VL[k]? = some v by
    rw [← HVL.out]
    exact ⟨_, List.getElem?_eq_getElem (by rw [List.length_map, Hm.out]; exact hk)⟩))
  have HBD := Lib.hid (fun (k : Nat) (v : Int) (h : VL[k]? = some v) => (show ((tv :: VL).flatMap iv)[k + 1]? = some (.int .i64 v) from iv_at (k := k + 1) h))
  have u1 : mkB wFade ≠ mkB wSet := fun e => by have := mkB_inj e; exact absurd this (by decide)
  have u2 : mkB wStop ≠ mkB wSet := fun e => by have := mkB_inj e; exact absurd this (by decide)
  have u3 : mkB wStop ≠ mkB wFade := fun e => by have := mkB_inj e; exact absurd this (by decide)
  have U := Lib.hid (And.intro u1 (And.intro u2 u3))
  have HWF := Lib.hid (show i.size ≤ maxLen ∧ g.size ≤ maxLen by rw [hml]; omega)
  clear u1 u2 u3 hok HN2 HN3 KN HE2
  by_cases a1 : a = mkB wSet
  · have f1 : (a.toList == [115, 101, 116]) = true := by rw [a1]; exact str_yes _
    have f2 : (a.toList == [102, 97, 100, 101]) = false := str_no (by rw [a1]; exact fun e => U.out.1 e.symm)
    have f3 : (a.toList == [115, 116, 111, 112]) = false := str_no (by rw [a1]; exact fun e => U.out.2.1 e.symm)
    by_cases m1 : m = 1
    · have HK := Lib.hid (show cuK2 a m = 1 by unfold cuK2; rw [if_pos ⟨a1, m1⟩])
      clear a1
      subst m1
      obtain ⟨v0, hv0⟩ := HLV.out 0 (by omega)
      have hm0 := own_cellAt_mid HM.out (j := 1) (HBD.out 0 v0 hv0)
      have HX := Lib.hid (show cuMk i tv g (cuK2 a 1) VL = (⟨i, tv, 0, g, 1, v0⟩ : SCue) by rw [HK.out]; unfold cuMk; rw [if_neg (by decide), if_pos (by decide)]; simp only [List.getD_eq_getElem?_getD, hv0, Option.getD_some])
      clear hv0
      have hne1 : ¬ gN = qb := by omega
      have hne2 : ¬ qb = gN := by omega
      have hcc0 := own_cellAt_mid HC.out (j := 0) rfl
      have hcc1 := own_cellAt_mid HC.out (j := 1) rfl
      have hcc2 := own_cellAt_mid HC.out (j := 2) rfl
      have hcc3 := own_cellAt_mid HC.out (j := 3) rfl
      have hcc4 := own_cellAt_mid HC.out (j := 4) rfl
      have hcc5 := own_cellAt_mid HC.out (j := 5) rfl
      have hyc0 := own_frozen_of HC.out 0
      have hyc1 := own_frozen_of HC.out 1
      have hyc2 := own_frozen_of HC.out 2
      have hyc3 := own_frozen_of HC.out 3
      have hyc4 := own_frozen_of HC.out 4
      have hyc5 := own_frozen_of HC.out 5
      have HCs := HC
      go_wp2
      go_region_held3 (fun w' => w'.cell? ⟨gN, 1, none⟩ = some (.int .i64 v0)) (first | go_keep | (simp [hne1, hne2, hm0]; done)) (fail)
      clear hm0
      clear hcc0 hcc1 hcc2 hcc3 hcc4 hcc5 hyc0 hyc1 hyc2 hyc3 hyc4 hyc5
      have T0 := Lib.hid (HC.out.stored 4 (.int .i64 1))
      have Qz0 := Lib.hid (own_Gx HQ2.out T0.out.2 (.inr (by simp [Value.ownBlock]; omega)))
      have Gz0 := Lib.hid (Gx.G G0.out T0.out.2 (by intro i hi; cases hi; omega))
      have T1 := Lib.hid (T0.out.1.stored 5 (.int .i64 v0))
      have Qz1 := Lib.hid (own_Gx Qz0.out T1.out.2 (.inr (by simp [Value.ownBlock]; omega)))
      have Gz1 := Lib.hid (Gx.G Gz0.out T1.out.2 (by intro i hi; cases hi; omega))
      obtain ⟨wy, HWY⟩ : ∃ wy, Hid (((wx.setCell ⟨qb, 4, none⟩ (.int .i64 1)).setCell ⟨qb, 5, none⟩ (.int .i64 v0)).drew = wy) := ⟨_, rfl⟩
      have GD := (G.refl ((wx.setCell ⟨qb, 4, none⟩ (.int .i64 1)).setCell ⟨qb, 5, none⟩ (.int .i64 v0))).drew
      rw [HWY.out] at GD ⊢
      have Cy := Lib.hid (own_G T1.out.1 GD)
      have Qy := Lib.hid (own_G Qz1.out GD)
      have Gy := Lib.hid (Gz1.out.trans GD)
      clear T0 Qz0 Gz0 T1 Qz1 Gz1 GD HWY
      have KV := Lib.hid (ValidCue_any (⟨i, tv, 0, g, 1, v0⟩ : SCue) wy HWF.out)
      have HR := Lib.hid (HX0.out _ HX.out)
      have hcc0 := own_cellAt_mid Cy.out (j := 0) rfl
      have hcc1 := own_cellAt_mid Cy.out (j := 1) rfl
      have hcc2 := own_cellAt_mid Cy.out (j := 2) rfl
      have hcc3 := own_cellAt_mid Cy.out (j := 3) rfl
      have hcc4 := own_cellAt_mid Cy.out (j := 4) rfl
      have hcc5 := own_cellAt_mid Cy.out (j := 5) rfl
      cases hv : vcuB (⟨i, tv, 0, g, 1, v0⟩ : SCue)
      · have H := Lib.hid (show R = (cuZ, false) by rw [HR.out, if_neg (fun e => by rw [hv] at e; exact absurd e.1 (by decide))])
        rw [hv] at KV
        clear hv
        go_wp2_with (go_at_call 36; (with_reducible refine KV.out.mono ?_); rintro e w7 ⟨rfl, g7⟩; have G7 := Lib.hid (Gy.out.trans g7); have Q7 := Lib.hid (own_G Qy.out g7); have C7 := Lib.hid (own_G Cy.out g7); clear g7; clear hcc0 hcc1 hcc2 hcc3 hcc4 hcc5; have hcq0 := own_cellAt_mid Q7.out (j := 0) rfl; have hcq1 := own_cellAt_mid Q7.out (j := 1) rfl; have hcq2 := own_cellAt_mid Q7.out (j := 2) rfl; have hcq3 := own_cellAt_mid Q7.out (j := 3) rfl; have hcq4 := own_cellAt_mid Q7.out (j := 4) rfl; have hcq5 := own_cellAt_mid Q7.out (j := 5) rfl; have hyq0 := own_frozen_of Q7.out 0; have hyq1 := own_frozen_of Q7.out 1; have hyq2 := own_frozen_of Q7.out 2; have hyq3 := own_frozen_of Q7.out 3; have hyq4 := own_frozen_of Q7.out 4; have hyq5 := own_frozen_of Q7.out 5)
        clear hcq0 hcq1 hcq2 hcq3 hcq4 hcq5 hyq0 hyq1 hyq2 hyq3 hyq4 hyq5
        have S0 := Lib.hid (Q7.out.stored 0 (.string ⟨#[]⟩))
        have S1 := Lib.hid (S0.out.1.stored 1 (.int .i64 0))
        have S2 := Lib.hid (S1.out.1.stored 2 (.int .i64 0))
        have S3 := Lib.hid (S2.out.1.stored 3 (.string ⟨#[]⟩))
        have S4 := Lib.hid (S3.out.1.stored 4 (.int .i64 0))
        have S5 := Lib.hid (S4.out.1.stored 5 (.int .i64 0))
        have k0 := own_cellAt_mid S5.out.1 (j := 0) rfl
        have k1 := own_cellAt_mid S5.out.1 (j := 1) rfl
        have k2 := own_cellAt_mid S5.out.1 (j := 2) rfl
        have k3 := own_cellAt_mid S5.out.1 (j := 3) rfl
        have k4 := own_cellAt_mid S5.out.1 (j := 4) rfl
        have k5 := own_cellAt_mid S5.out.1 (j := 5) rfl
        exact bodyPost_ret (v := .tuple #[.agg #[.string ⟨#[]⟩, .int .i64 0, .int .i64 0, .string ⟨#[]⟩, .int .i64 0, .int .i64 0], .bool false]) (by simp [results, Tryz.results18, go_sem, k0, k1, k2, k3, k4, k5]) rfl ⟨by rw [H.out] <;> rfl, Gx.G G7.out (Gx.trans (Gx.trans (Gx.trans (Gx.trans (Gx.trans S0.out.2 S1.out.2) S2.out.2) S3.out.2) S4.out.2) S5.out.2) (by intro i hi; cases hi; exact Nat.le_refl _)⟩
      have KT := Lib.hid (fun (W : World) (gg : G w W) => iCueText_yes (⟨i, tv, 0, g, 1, v0⟩ : SCue) hv HWF.out W (HE.out.G gg).tab)
      by_cases he : cueT (⟨i, tv, 0, g, 1, v0⟩ : SCue) = s
      · have H := Lib.hid (show R = ((⟨i, tv, 0, g, 1, v0⟩ : SCue), true) by rw [HR.out, if_pos ⟨hv, he⟩])
        rw [hv] at KV
        rw [he] at KT
        have hes : (s.toList == s.toList) = true := by simp
        clear hv he
        go_wp2_with (first | (go_at_call 36; (with_reducible refine KV.out.mono ?_); rintro e w7 ⟨rfl, g7⟩; have G7 := Lib.hid (Gy.out.trans g7); have Q7 := Lib.hid (own_G Qy.out g7); have C7 := Lib.hid (own_G Cy.out g7); clear g7; clear hcc0 hcc1 hcc2 hcc3 hcc4 hcc5; have hcc0 := own_cellAt_mid C7.out (j := 0) rfl; have hcc1 := own_cellAt_mid C7.out (j := 1) rfl; have hcc2 := own_cellAt_mid C7.out (j := 2) rfl; have hcc3 := own_cellAt_mid C7.out (j := 3) rfl; have hcc4 := own_cellAt_mid C7.out (j := 4) rfl; have hcc5 := own_cellAt_mid C7.out (j := 5) rfl) | (go_at_call 21; (with_reducible refine (KT.out _ G7.out).mono ?_); rintro e w8 ⟨rfl, g8⟩; have G8 := Lib.hid (G7.out.trans g8); have Q8 := Lib.hid (own_G Q7.out g8); have C8 := Lib.hid (own_G C7.out g8); clear g8; clear hcc0 hcc1 hcc2 hcc3 hcc4 hcc5; have hcc0 := own_cellAt_mid C8.out (j := 0) rfl; have hcc1 := own_cellAt_mid C8.out (j := 1) rfl; have hcc2 := own_cellAt_mid C8.out (j := 2) rfl; have hcc3 := own_cellAt_mid C8.out (j := 3) rfl; have hcc4 := own_cellAt_mid C8.out (j := 4) rfl; have hcc5 := own_cellAt_mid C8.out (j := 5) rfl; have hcq0 := own_cellAt_mid Q8.out (j := 0) rfl; have hcq1 := own_cellAt_mid Q8.out (j := 1) rfl; have hcq2 := own_cellAt_mid Q8.out (j := 2) rfl; have hcq3 := own_cellAt_mid Q8.out (j := 3) rfl; have hcq4 := own_cellAt_mid Q8.out (j := 4) rfl; have hcq5 := own_cellAt_mid Q8.out (j := 5) rfl; have hyq0 := own_frozen_of Q8.out 0; have hyq1 := own_frozen_of Q8.out 1; have hyq2 := own_frozen_of Q8.out 2; have hyq3 := own_frozen_of Q8.out 3; have hyq4 := own_frozen_of Q8.out 4; have hyq5 := own_frozen_of Q8.out 5))
        clear hcq0 hcq1 hcq2 hcq3 hcq4 hcq5 hyq0 hyq1 hyq2 hyq3 hyq4 hyq5
        clear hcc0 hcc1 hcc2 hcc3 hcc4 hcc5
        have S0 := Lib.hid (Q8.out.stored 0 (.string i))
        have S1 := Lib.hid (S0.out.1.stored 1 (.int .i64 tv))
        have S2 := Lib.hid (S1.out.1.stored 2 (.int .i64 0))
        have S3 := Lib.hid (S2.out.1.stored 3 (.string g))
        have S4 := Lib.hid (S3.out.1.stored 4 (.int .i64 1))
        have S5 := Lib.hid (S4.out.1.stored 5 (.int .i64 v0))
        have k0 := own_cellAt_mid S5.out.1 (j := 0) rfl
        have k1 := own_cellAt_mid S5.out.1 (j := 1) rfl
        have k2 := own_cellAt_mid S5.out.1 (j := 2) rfl
        have k3 := own_cellAt_mid S5.out.1 (j := 3) rfl
        have k4 := own_cellAt_mid S5.out.1 (j := 4) rfl
        have k5 := own_cellAt_mid S5.out.1 (j := 5) rfl
        exact bodyPost_ret (v := .tuple #[.agg #[.string i, .int .i64 tv, .int .i64 0, .string g, .int .i64 1, .int .i64 v0], .bool true]) (by simp [results, Tryz.results18, go_sem, k0, k1, k2, k3, k4, k5]) rfl ⟨by rw [H.out] <;> rfl, Gx.G G8.out (Gx.trans (Gx.trans (Gx.trans (Gx.trans (Gx.trans S0.out.2 S1.out.2) S2.out.2) S3.out.2) S4.out.2) S5.out.2) (by intro i hi; cases hi; exact Nat.le_refl _)⟩
      · have H := Lib.hid (show R = (cuZ, false) by rw [HR.out, if_neg (fun e => he e.2)])
        rw [hv] at KV
        obtain ⟨T, HT⟩ : ∃ T, Hid (cueT (⟨i, tv, 0, g, 1, v0⟩ : SCue) = T) := ⟨_, rfl⟩
        rw [HT.out] at KT he
        have hes : (T.toList == s.toList) = false := by
          rw [beq_eq_false_iff_ne]
          intro e
          apply he
          apply ByteArray.ext
          apply Array.toList_inj.1
          rw [← ByteArray.toList_eq, ← ByteArray.toList_eq]
          exact e
        clear hv he
        go_wp2_with (first | (go_at_call 36; (with_reducible refine KV.out.mono ?_); rintro e w7 ⟨rfl, g7⟩; have G7 := Lib.hid (Gy.out.trans g7); have Q7 := Lib.hid (own_G Qy.out g7); have C7 := Lib.hid (own_G Cy.out g7); clear g7; clear hcc0 hcc1 hcc2 hcc3 hcc4 hcc5; have hcc0 := own_cellAt_mid C7.out (j := 0) rfl; have hcc1 := own_cellAt_mid C7.out (j := 1) rfl; have hcc2 := own_cellAt_mid C7.out (j := 2) rfl; have hcc3 := own_cellAt_mid C7.out (j := 3) rfl; have hcc4 := own_cellAt_mid C7.out (j := 4) rfl; have hcc5 := own_cellAt_mid C7.out (j := 5) rfl) | (go_at_call 21; (with_reducible refine (KT.out _ G7.out).mono ?_); rintro e w8 ⟨rfl, g8⟩; have G8 := Lib.hid (G7.out.trans g8); have Q8 := Lib.hid (own_G Q7.out g8); clear g8; clear hcc0 hcc1 hcc2 hcc3 hcc4 hcc5; have hcq0 := own_cellAt_mid Q8.out (j := 0) rfl; have hcq1 := own_cellAt_mid Q8.out (j := 1) rfl; have hcq2 := own_cellAt_mid Q8.out (j := 2) rfl; have hcq3 := own_cellAt_mid Q8.out (j := 3) rfl; have hcq4 := own_cellAt_mid Q8.out (j := 4) rfl; have hcq5 := own_cellAt_mid Q8.out (j := 5) rfl; have hyq0 := own_frozen_of Q8.out 0; have hyq1 := own_frozen_of Q8.out 1; have hyq2 := own_frozen_of Q8.out 2; have hyq3 := own_frozen_of Q8.out 3; have hyq4 := own_frozen_of Q8.out 4; have hyq5 := own_frozen_of Q8.out 5))
        clear hcq0 hcq1 hcq2 hcq3 hcq4 hcq5 hyq0 hyq1 hyq2 hyq3 hyq4 hyq5
        have S0 := Lib.hid (Q8.out.stored 0 (.string ⟨#[]⟩))
        have S1 := Lib.hid (S0.out.1.stored 1 (.int .i64 0))
        have S2 := Lib.hid (S1.out.1.stored 2 (.int .i64 0))
        have S3 := Lib.hid (S2.out.1.stored 3 (.string ⟨#[]⟩))
        have S4 := Lib.hid (S3.out.1.stored 4 (.int .i64 0))
        have S5 := Lib.hid (S4.out.1.stored 5 (.int .i64 0))
        have k0 := own_cellAt_mid S5.out.1 (j := 0) rfl
        have k1 := own_cellAt_mid S5.out.1 (j := 1) rfl
        have k2 := own_cellAt_mid S5.out.1 (j := 2) rfl
        have k3 := own_cellAt_mid S5.out.1 (j := 3) rfl
        have k4 := own_cellAt_mid S5.out.1 (j := 4) rfl
        have k5 := own_cellAt_mid S5.out.1 (j := 5) rfl
        exact bodyPost_ret (v := .tuple #[.agg #[.string ⟨#[]⟩, .int .i64 0, .int .i64 0, .string ⟨#[]⟩, .int .i64 0, .int .i64 0], .bool false]) (by simp [results, Tryz.results18, go_sem, k0, k1, k2, k3, k4, k5]) rfl ⟨by rw [H.out] <;> rfl, Gx.G G8.out (Gx.trans (Gx.trans (Gx.trans (Gx.trans (Gx.trans S0.out.2 S1.out.2) S2.out.2) S3.out.2) S4.out.2) S5.out.2) (by intro i hi; cases hi; exact Nat.le_refl _)⟩
    · have HK := Lib.hid (show cuK2 a m = 0 by unfold cuK2; rw [if_neg (fun e => m1 e.2), if_neg (fun e => U.out.1 (e.1.symm.trans a1)), if_neg (fun e => U.out.2.1 (e.symm.trans a1))])
      have l1 : ((m : Int) + 1 == 2) = false := by rw [beq_eq_false_iff_ne]; omega
      clear a1 m1
      have HX := Lib.hid (show cuMk i tv g (cuK2 a m) VL = (⟨i, tv, 0, g, 0, 0⟩ : SCue) by rw [HK.out]; unfold cuMk; rw [if_neg (by decide), if_neg (by decide)])
      have hne1 : ¬ gN = qb := by omega
      have hne2 : ¬ qb = gN := by omega
      have hcc0 := own_cellAt_mid HC.out (j := 0) rfl
      have hcc1 := own_cellAt_mid HC.out (j := 1) rfl
      have hcc2 := own_cellAt_mid HC.out (j := 2) rfl
      have hcc3 := own_cellAt_mid HC.out (j := 3) rfl
      have hcc4 := own_cellAt_mid HC.out (j := 4) rfl
      have hcc5 := own_cellAt_mid HC.out (j := 5) rfl
      have hyc0 := own_frozen_of HC.out 0
      have hyc1 := own_frozen_of HC.out 1
      have hyc2 := own_frozen_of HC.out 2
      have hyc3 := own_frozen_of HC.out 3
      have hyc4 := own_frozen_of HC.out 4
      have hyc5 := own_frozen_of HC.out 5
      have HCs := HC
      skip
      clear hcc0 hcc1 hcc2 hcc3 hcc4 hcc5 hyc0 hyc1 hyc2 hyc3 hyc4 hyc5
      obtain ⟨wy, HWY⟩ : ∃ wy : World, wy = wx := ⟨_, rfl⟩
      subst HWY
      have Cy := HC
      have Qy := HQ2
      have Gy := G0
      have KV := Lib.hid (ValidCue_any (⟨i, tv, 0, g, 0, 0⟩ : SCue) wy HWF.out)
      have HR := Lib.hid (HX0.out _ HX.out)
      have hcc0 := own_cellAt_mid Cy.out (j := 0) rfl
      have hcc1 := own_cellAt_mid Cy.out (j := 1) rfl
      have hcc2 := own_cellAt_mid Cy.out (j := 2) rfl
      have hcc3 := own_cellAt_mid Cy.out (j := 3) rfl
      have hcc4 := own_cellAt_mid Cy.out (j := 4) rfl
      have hcc5 := own_cellAt_mid Cy.out (j := 5) rfl
      have hv : vcuB (⟨i, tv, 0, g, 0, 0⟩ : SCue) = false := by
        cases hq : vcuB (⟨i, tv, 0, g, 0, 0⟩ : SCue)
        · rfl
        · have := vcuB_act hq
          simp only at this
          omega
      have H := Lib.hid (show R = (cuZ, false) by rw [HR.out, if_neg (fun e => by rw [hv] at e; exact absurd e.1 (by decide))])
      rw [hv] at KV
      clear hv
      go_wp2_with (go_at_call 36; (with_reducible refine KV.out.mono ?_); rintro e w7 ⟨rfl, g7⟩; have G7 := Lib.hid (Gy.out.trans g7); have Q7 := Lib.hid (own_G Qy.out g7); have C7 := Lib.hid (own_G Cy.out g7); clear g7; clear hcc0 hcc1 hcc2 hcc3 hcc4 hcc5; have hcq0 := own_cellAt_mid Q7.out (j := 0) rfl; have hcq1 := own_cellAt_mid Q7.out (j := 1) rfl; have hcq2 := own_cellAt_mid Q7.out (j := 2) rfl; have hcq3 := own_cellAt_mid Q7.out (j := 3) rfl; have hcq4 := own_cellAt_mid Q7.out (j := 4) rfl; have hcq5 := own_cellAt_mid Q7.out (j := 5) rfl; have hyq0 := own_frozen_of Q7.out 0; have hyq1 := own_frozen_of Q7.out 1; have hyq2 := own_frozen_of Q7.out 2; have hyq3 := own_frozen_of Q7.out 3; have hyq4 := own_frozen_of Q7.out 4; have hyq5 := own_frozen_of Q7.out 5)
      clear hcq0 hcq1 hcq2 hcq3 hcq4 hcq5 hyq0 hyq1 hyq2 hyq3 hyq4 hyq5
      have S0 := Lib.hid (Q7.out.stored 0 (.string ⟨#[]⟩))
      have S1 := Lib.hid (S0.out.1.stored 1 (.int .i64 0))
      have S2 := Lib.hid (S1.out.1.stored 2 (.int .i64 0))
      have S3 := Lib.hid (S2.out.1.stored 3 (.string ⟨#[]⟩))
      have S4 := Lib.hid (S3.out.1.stored 4 (.int .i64 0))
      have S5 := Lib.hid (S4.out.1.stored 5 (.int .i64 0))
      have k0 := own_cellAt_mid S5.out.1 (j := 0) rfl
      have k1 := own_cellAt_mid S5.out.1 (j := 1) rfl
      have k2 := own_cellAt_mid S5.out.1 (j := 2) rfl
      have k3 := own_cellAt_mid S5.out.1 (j := 3) rfl
      have k4 := own_cellAt_mid S5.out.1 (j := 4) rfl
      have k5 := own_cellAt_mid S5.out.1 (j := 5) rfl
      exact bodyPost_ret (v := .tuple #[.agg #[.string ⟨#[]⟩, .int .i64 0, .int .i64 0, .string ⟨#[]⟩, .int .i64 0, .int .i64 0], .bool false]) (by simp [results, Tryz.results18, go_sem, k0, k1, k2, k3, k4, k5]) rfl ⟨by rw [H.out] <;> rfl, Gx.G G7.out (Gx.trans (Gx.trans (Gx.trans (Gx.trans (Gx.trans S0.out.2 S1.out.2) S2.out.2) S3.out.2) S4.out.2) S5.out.2) (by intro i hi; cases hi; exact Nat.le_refl _)⟩
  by_cases a2 : a = mkB wFade
  · have f1 : (a.toList == [115, 101, 116]) = false := str_no a1
    have f2 : (a.toList == [102, 97, 100, 101]) = true := by rw [a2]; exact str_yes _
    have f3 : (a.toList == [115, 116, 111, 112]) = false := str_no (by rw [a2]; exact fun e => U.out.2.2 e.symm)
    by_cases m1 : m = 2
    · have HK := Lib.hid (show cuK2 a m = 2 by unfold cuK2; rw [if_neg (fun e => a1 e.1), if_pos ⟨a2, m1⟩])
      clear a1 a2
      subst m1
      obtain ⟨v0, hv0⟩ := HLV.out 0 (by omega)
      have hm0 := own_cellAt_mid HM.out (j := 1) (HBD.out 0 v0 hv0)
      obtain ⟨v1, hv1⟩ := HLV.out 1 (by omega)
      have hm1 := own_cellAt_mid HM.out (j := 2) (HBD.out 1 v1 hv1)
      have HX := Lib.hid (show cuMk i tv g (cuK2 a 2) VL = (⟨i, tv, v1, g, 2, v0⟩ : SCue) by rw [HK.out]; unfold cuMk; rw [if_pos rfl, if_pos (by decide)]; simp only [List.getD_eq_getElem?_getD, hv0, hv1, Option.getD_some])
      clear hv0 hv1
      have hne1 : ¬ gN = qb := by omega
      have hne2 : ¬ qb = gN := by omega
      have hcc0 := own_cellAt_mid HC.out (j := 0) rfl
      have hcc1 := own_cellAt_mid HC.out (j := 1) rfl
      have hcc2 := own_cellAt_mid HC.out (j := 2) rfl
      have hcc3 := own_cellAt_mid HC.out (j := 3) rfl
      have hcc4 := own_cellAt_mid HC.out (j := 4) rfl
      have hcc5 := own_cellAt_mid HC.out (j := 5) rfl
      have hyc0 := own_frozen_of HC.out 0
      have hyc1 := own_frozen_of HC.out 1
      have hyc2 := own_frozen_of HC.out 2
      have hyc3 := own_frozen_of HC.out 3
      have hyc4 := own_frozen_of HC.out 4
      have hyc5 := own_frozen_of HC.out 5
      have HCs := HC
      go_wp2
      go_region_held3 (fun w' => w'.cell? ⟨gN, 1, none⟩ = some (.int .i64 v0) ∧ w'.cell? ⟨gN, 2, none⟩ = some (.int .i64 v1)) (first | go_keep | (simp [hne1, hne2, hm0, hm1]; done)) (fail)
      clear hm0 hm1
      clear hcc0 hcc1 hcc2 hcc3 hcc4 hcc5 hyc0 hyc1 hyc2 hyc3 hyc4 hyc5
      have T0 := Lib.hid (HC.out.stored 4 (.int .i64 2))
      have Qz0 := Lib.hid (own_Gx HQ2.out T0.out.2 (.inr (by simp [Value.ownBlock]; omega)))
      have Gz0 := Lib.hid (Gx.G G0.out T0.out.2 (by intro i hi; cases hi; omega))
      have T1 := Lib.hid (T0.out.1.stored 5 (.int .i64 v0))
      have Qz1 := Lib.hid (own_Gx Qz0.out T1.out.2 (.inr (by simp [Value.ownBlock]; omega)))
      have Gz1 := Lib.hid (Gx.G Gz0.out T1.out.2 (by intro i hi; cases hi; omega))
      have T2 := Lib.hid (T1.out.1.stored 2 (.int .i64 v1))
      have Qz2 := Lib.hid (own_Gx Qz1.out T2.out.2 (.inr (by simp [Value.ownBlock]; omega)))
      have Gz2 := Lib.hid (Gx.G Gz1.out T2.out.2 (by intro i hi; cases hi; omega))
      obtain ⟨wy, HWY⟩ : ∃ wy, Hid ((((wx.setCell ⟨qb, 4, none⟩ (.int .i64 2)).setCell ⟨qb, 5, none⟩ (.int .i64 v0)).setCell ⟨qb, 2, none⟩ (.int .i64 v1)).drew = wy) := ⟨_, rfl⟩
      have GD := (G.refl (((wx.setCell ⟨qb, 4, none⟩ (.int .i64 2)).setCell ⟨qb, 5, none⟩ (.int .i64 v0)).setCell ⟨qb, 2, none⟩ (.int .i64 v1))).drew
      rw [HWY.out] at GD ⊢
      have Cy := Lib.hid (own_G T2.out.1 GD)
      have Qy := Lib.hid (own_G Qz2.out GD)
      have Gy := Lib.hid (Gz2.out.trans GD)
      clear T0 Qz0 Gz0 T1 Qz1 Gz1 T2 Qz2 Gz2 GD HWY
      have KV := Lib.hid (ValidCue_any (⟨i, tv, v1, g, 2, v0⟩ : SCue) wy HWF.out)
      have HR := Lib.hid (HX0.out _ HX.out)
      have hcc0 := own_cellAt_mid Cy.out (j := 0) rfl
      have hcc1 := own_cellAt_mid Cy.out (j := 1) rfl
      have hcc2 := own_cellAt_mid Cy.out (j := 2) rfl
      have hcc3 := own_cellAt_mid Cy.out (j := 3) rfl
      have hcc4 := own_cellAt_mid Cy.out (j := 4) rfl
      have hcc5 := own_cellAt_mid Cy.out (j := 5) rfl
      cases hv : vcuB (⟨i, tv, v1, g, 2, v0⟩ : SCue)
      · have H := Lib.hid (show R = (cuZ, false) by rw [HR.out, if_neg (fun e => by rw [hv] at e; exact absurd e.1 (by decide))])
        rw [hv] at KV
        clear hv
        go_wp2_with (go_at_call 36; (with_reducible refine KV.out.mono ?_); rintro e w7 ⟨rfl, g7⟩; have G7 := Lib.hid (Gy.out.trans g7); have Q7 := Lib.hid (own_G Qy.out g7); have C7 := Lib.hid (own_G Cy.out g7); clear g7; clear hcc0 hcc1 hcc2 hcc3 hcc4 hcc5; have hcq0 := own_cellAt_mid Q7.out (j := 0) rfl; have hcq1 := own_cellAt_mid Q7.out (j := 1) rfl; have hcq2 := own_cellAt_mid Q7.out (j := 2) rfl; have hcq3 := own_cellAt_mid Q7.out (j := 3) rfl; have hcq4 := own_cellAt_mid Q7.out (j := 4) rfl; have hcq5 := own_cellAt_mid Q7.out (j := 5) rfl; have hyq0 := own_frozen_of Q7.out 0; have hyq1 := own_frozen_of Q7.out 1; have hyq2 := own_frozen_of Q7.out 2; have hyq3 := own_frozen_of Q7.out 3; have hyq4 := own_frozen_of Q7.out 4; have hyq5 := own_frozen_of Q7.out 5)
        clear hcq0 hcq1 hcq2 hcq3 hcq4 hcq5 hyq0 hyq1 hyq2 hyq3 hyq4 hyq5
        have S0 := Lib.hid (Q7.out.stored 0 (.string ⟨#[]⟩))
        have S1 := Lib.hid (S0.out.1.stored 1 (.int .i64 0))
        have S2 := Lib.hid (S1.out.1.stored 2 (.int .i64 0))
        have S3 := Lib.hid (S2.out.1.stored 3 (.string ⟨#[]⟩))
        have S4 := Lib.hid (S3.out.1.stored 4 (.int .i64 0))
        have S5 := Lib.hid (S4.out.1.stored 5 (.int .i64 0))
        have k0 := own_cellAt_mid S5.out.1 (j := 0) rfl
        have k1 := own_cellAt_mid S5.out.1 (j := 1) rfl
        have k2 := own_cellAt_mid S5.out.1 (j := 2) rfl
        have k3 := own_cellAt_mid S5.out.1 (j := 3) rfl
        have k4 := own_cellAt_mid S5.out.1 (j := 4) rfl
        have k5 := own_cellAt_mid S5.out.1 (j := 5) rfl
        exact bodyPost_ret (v := .tuple #[.agg #[.string ⟨#[]⟩, .int .i64 0, .int .i64 0, .string ⟨#[]⟩, .int .i64 0, .int .i64 0], .bool false]) (by simp [results, Tryz.results18, go_sem, k0, k1, k2, k3, k4, k5]) rfl ⟨by rw [H.out] <;> rfl, Gx.G G7.out (Gx.trans (Gx.trans (Gx.trans (Gx.trans (Gx.trans S0.out.2 S1.out.2) S2.out.2) S3.out.2) S4.out.2) S5.out.2) (by intro i hi; cases hi; exact Nat.le_refl _)⟩
      have KT := Lib.hid (fun (W : World) (gg : G w W) => iCueText_yes (⟨i, tv, v1, g, 2, v0⟩ : SCue) hv HWF.out W (HE.out.G gg).tab)
      by_cases he : cueT (⟨i, tv, v1, g, 2, v0⟩ : SCue) = s
      · have H := Lib.hid (show R = ((⟨i, tv, v1, g, 2, v0⟩ : SCue), true) by rw [HR.out, if_pos ⟨hv, he⟩])
        rw [hv] at KV
        rw [he] at KT
        have hes : (s.toList == s.toList) = true := by simp
        clear hv he
        go_wp2_with (first | (go_at_call 36; (with_reducible refine KV.out.mono ?_); rintro e w7 ⟨rfl, g7⟩; have G7 := Lib.hid (Gy.out.trans g7); have Q7 := Lib.hid (own_G Qy.out g7); have C7 := Lib.hid (own_G Cy.out g7); clear g7; clear hcc0 hcc1 hcc2 hcc3 hcc4 hcc5; have hcc0 := own_cellAt_mid C7.out (j := 0) rfl; have hcc1 := own_cellAt_mid C7.out (j := 1) rfl; have hcc2 := own_cellAt_mid C7.out (j := 2) rfl; have hcc3 := own_cellAt_mid C7.out (j := 3) rfl; have hcc4 := own_cellAt_mid C7.out (j := 4) rfl; have hcc5 := own_cellAt_mid C7.out (j := 5) rfl) | (go_at_call 21; (with_reducible refine (KT.out _ G7.out).mono ?_); rintro e w8 ⟨rfl, g8⟩; have G8 := Lib.hid (G7.out.trans g8); have Q8 := Lib.hid (own_G Q7.out g8); have C8 := Lib.hid (own_G C7.out g8); clear g8; clear hcc0 hcc1 hcc2 hcc3 hcc4 hcc5; have hcc0 := own_cellAt_mid C8.out (j := 0) rfl; have hcc1 := own_cellAt_mid C8.out (j := 1) rfl; have hcc2 := own_cellAt_mid C8.out (j := 2) rfl; have hcc3 := own_cellAt_mid C8.out (j := 3) rfl; have hcc4 := own_cellAt_mid C8.out (j := 4) rfl; have hcc5 := own_cellAt_mid C8.out (j := 5) rfl; have hcq0 := own_cellAt_mid Q8.out (j := 0) rfl; have hcq1 := own_cellAt_mid Q8.out (j := 1) rfl; have hcq2 := own_cellAt_mid Q8.out (j := 2) rfl; have hcq3 := own_cellAt_mid Q8.out (j := 3) rfl; have hcq4 := own_cellAt_mid Q8.out (j := 4) rfl; have hcq5 := own_cellAt_mid Q8.out (j := 5) rfl; have hyq0 := own_frozen_of Q8.out 0; have hyq1 := own_frozen_of Q8.out 1; have hyq2 := own_frozen_of Q8.out 2; have hyq3 := own_frozen_of Q8.out 3; have hyq4 := own_frozen_of Q8.out 4; have hyq5 := own_frozen_of Q8.out 5))
        clear hcq0 hcq1 hcq2 hcq3 hcq4 hcq5 hyq0 hyq1 hyq2 hyq3 hyq4 hyq5
        clear hcc0 hcc1 hcc2 hcc3 hcc4 hcc5
        have S0 := Lib.hid (Q8.out.stored 0 (.string i))
        have S1 := Lib.hid (S0.out.1.stored 1 (.int .i64 tv))
        have S2 := Lib.hid (S1.out.1.stored 2 (.int .i64 v1))
        have S3 := Lib.hid (S2.out.1.stored 3 (.string g))
        have S4 := Lib.hid (S3.out.1.stored 4 (.int .i64 2))
        have S5 := Lib.hid (S4.out.1.stored 5 (.int .i64 v0))
        have k0 := own_cellAt_mid S5.out.1 (j := 0) rfl
        have k1 := own_cellAt_mid S5.out.1 (j := 1) rfl
        have k2 := own_cellAt_mid S5.out.1 (j := 2) rfl
        have k3 := own_cellAt_mid S5.out.1 (j := 3) rfl
        have k4 := own_cellAt_mid S5.out.1 (j := 4) rfl
        have k5 := own_cellAt_mid S5.out.1 (j := 5) rfl
        exact bodyPost_ret (v := .tuple #[.agg #[.string i, .int .i64 tv, .int .i64 v1, .string g, .int .i64 2, .int .i64 v0], .bool true]) (by simp [results, Tryz.results18, go_sem, k0, k1, k2, k3, k4, k5]) rfl ⟨by rw [H.out] <;> rfl, Gx.G G8.out (Gx.trans (Gx.trans (Gx.trans (Gx.trans (Gx.trans S0.out.2 S1.out.2) S2.out.2) S3.out.2) S4.out.2) S5.out.2) (by intro i hi; cases hi; exact Nat.le_refl _)⟩
      · have H := Lib.hid (show R = (cuZ, false) by rw [HR.out, if_neg (fun e => he e.2)])
        rw [hv] at KV
        obtain ⟨T, HT⟩ : ∃ T, Hid (cueT (⟨i, tv, v1, g, 2, v0⟩ : SCue) = T) := ⟨_, rfl⟩
        rw [HT.out] at KT he
        have hes : (T.toList == s.toList) = false := by
          rw [beq_eq_false_iff_ne]
          intro e
          apply he
          apply ByteArray.ext
          apply Array.toList_inj.1
          rw [← ByteArray.toList_eq, ← ByteArray.toList_eq]
          exact e
        clear hv he
        go_wp2_with (first | (go_at_call 36; (with_reducible refine KV.out.mono ?_); rintro e w7 ⟨rfl, g7⟩; have G7 := Lib.hid (Gy.out.trans g7); have Q7 := Lib.hid (own_G Qy.out g7); have C7 := Lib.hid (own_G Cy.out g7); clear g7; clear hcc0 hcc1 hcc2 hcc3 hcc4 hcc5; have hcc0 := own_cellAt_mid C7.out (j := 0) rfl; have hcc1 := own_cellAt_mid C7.out (j := 1) rfl; have hcc2 := own_cellAt_mid C7.out (j := 2) rfl; have hcc3 := own_cellAt_mid C7.out (j := 3) rfl; have hcc4 := own_cellAt_mid C7.out (j := 4) rfl; have hcc5 := own_cellAt_mid C7.out (j := 5) rfl) | (go_at_call 21; (with_reducible refine (KT.out _ G7.out).mono ?_); rintro e w8 ⟨rfl, g8⟩; have G8 := Lib.hid (G7.out.trans g8); have Q8 := Lib.hid (own_G Q7.out g8); clear g8; clear hcc0 hcc1 hcc2 hcc3 hcc4 hcc5; have hcq0 := own_cellAt_mid Q8.out (j := 0) rfl; have hcq1 := own_cellAt_mid Q8.out (j := 1) rfl; have hcq2 := own_cellAt_mid Q8.out (j := 2) rfl; have hcq3 := own_cellAt_mid Q8.out (j := 3) rfl; have hcq4 := own_cellAt_mid Q8.out (j := 4) rfl; have hcq5 := own_cellAt_mid Q8.out (j := 5) rfl; have hyq0 := own_frozen_of Q8.out 0; have hyq1 := own_frozen_of Q8.out 1; have hyq2 := own_frozen_of Q8.out 2; have hyq3 := own_frozen_of Q8.out 3; have hyq4 := own_frozen_of Q8.out 4; have hyq5 := own_frozen_of Q8.out 5))
        clear hcq0 hcq1 hcq2 hcq3 hcq4 hcq5 hyq0 hyq1 hyq2 hyq3 hyq4 hyq5
        have S0 := Lib.hid (Q8.out.stored 0 (.string ⟨#[]⟩))
        have S1 := Lib.hid (S0.out.1.stored 1 (.int .i64 0))
        have S2 := Lib.hid (S1.out.1.stored 2 (.int .i64 0))
        have S3 := Lib.hid (S2.out.1.stored 3 (.string ⟨#[]⟩))
        have S4 := Lib.hid (S3.out.1.stored 4 (.int .i64 0))
        have S5 := Lib.hid (S4.out.1.stored 5 (.int .i64 0))
        have k0 := own_cellAt_mid S5.out.1 (j := 0) rfl
        have k1 := own_cellAt_mid S5.out.1 (j := 1) rfl
        have k2 := own_cellAt_mid S5.out.1 (j := 2) rfl
        have k3 := own_cellAt_mid S5.out.1 (j := 3) rfl
        have k4 := own_cellAt_mid S5.out.1 (j := 4) rfl
        have k5 := own_cellAt_mid S5.out.1 (j := 5) rfl
        exact bodyPost_ret (v := .tuple #[.agg #[.string ⟨#[]⟩, .int .i64 0, .int .i64 0, .string ⟨#[]⟩, .int .i64 0, .int .i64 0], .bool false]) (by simp [results, Tryz.results18, go_sem, k0, k1, k2, k3, k4, k5]) rfl ⟨by rw [H.out] <;> rfl, Gx.G G8.out (Gx.trans (Gx.trans (Gx.trans (Gx.trans (Gx.trans S0.out.2 S1.out.2) S2.out.2) S3.out.2) S4.out.2) S5.out.2) (by intro i hi; cases hi; exact Nat.le_refl _)⟩
    · have HK := Lib.hid (show cuK2 a m = 0 by unfold cuK2; rw [if_neg (fun e => a1 e.1), if_neg (fun e => m1 e.2), if_neg (fun e => U.out.2.2 (e.symm.trans a2))])
      have l1 : ((m : Int) + 1 == 3) = false := by rw [beq_eq_false_iff_ne]; omega
      clear a1 a2 m1
      have HX := Lib.hid (show cuMk i tv g (cuK2 a m) VL = (⟨i, tv, 0, g, 0, 0⟩ : SCue) by rw [HK.out]; unfold cuMk; rw [if_neg (by decide), if_neg (by decide)])
      have hne1 : ¬ gN = qb := by omega
      have hne2 : ¬ qb = gN := by omega
      have hcc0 := own_cellAt_mid HC.out (j := 0) rfl
      have hcc1 := own_cellAt_mid HC.out (j := 1) rfl
      have hcc2 := own_cellAt_mid HC.out (j := 2) rfl
      have hcc3 := own_cellAt_mid HC.out (j := 3) rfl
      have hcc4 := own_cellAt_mid HC.out (j := 4) rfl
      have hcc5 := own_cellAt_mid HC.out (j := 5) rfl
      have hyc0 := own_frozen_of HC.out 0
      have hyc1 := own_frozen_of HC.out 1
      have hyc2 := own_frozen_of HC.out 2
      have hyc3 := own_frozen_of HC.out 3
      have hyc4 := own_frozen_of HC.out 4
      have hyc5 := own_frozen_of HC.out 5
      have HCs := HC
      skip
      clear hcc0 hcc1 hcc2 hcc3 hcc4 hcc5 hyc0 hyc1 hyc2 hyc3 hyc4 hyc5
      obtain ⟨wy, HWY⟩ : ∃ wy : World, wy = wx := ⟨_, rfl⟩
      subst HWY
      have Cy := HC
      have Qy := HQ2
      have Gy := G0
      have KV := Lib.hid (ValidCue_any (⟨i, tv, 0, g, 0, 0⟩ : SCue) wy HWF.out)
      have HR := Lib.hid (HX0.out _ HX.out)
      have hcc0 := own_cellAt_mid Cy.out (j := 0) rfl
      have hcc1 := own_cellAt_mid Cy.out (j := 1) rfl
      have hcc2 := own_cellAt_mid Cy.out (j := 2) rfl
      have hcc3 := own_cellAt_mid Cy.out (j := 3) rfl
      have hcc4 := own_cellAt_mid Cy.out (j := 4) rfl
      have hcc5 := own_cellAt_mid Cy.out (j := 5) rfl
      have hv : vcuB (⟨i, tv, 0, g, 0, 0⟩ : SCue) = false := by
        cases hq : vcuB (⟨i, tv, 0, g, 0, 0⟩ : SCue)
        · rfl
        · have := vcuB_act hq
          simp only at this
          omega
      have H := Lib.hid (show R = (cuZ, false) by rw [HR.out, if_neg (fun e => by rw [hv] at e; exact absurd e.1 (by decide))])
      rw [hv] at KV
      clear hv
      go_wp2_with (go_at_call 36; (with_reducible refine KV.out.mono ?_); rintro e w7 ⟨rfl, g7⟩; have G7 := Lib.hid (Gy.out.trans g7); have Q7 := Lib.hid (own_G Qy.out g7); have C7 := Lib.hid (own_G Cy.out g7); clear g7; clear hcc0 hcc1 hcc2 hcc3 hcc4 hcc5; have hcq0 := own_cellAt_mid Q7.out (j := 0) rfl; have hcq1 := own_cellAt_mid Q7.out (j := 1) rfl; have hcq2 := own_cellAt_mid Q7.out (j := 2) rfl; have hcq3 := own_cellAt_mid Q7.out (j := 3) rfl; have hcq4 := own_cellAt_mid Q7.out (j := 4) rfl; have hcq5 := own_cellAt_mid Q7.out (j := 5) rfl; have hyq0 := own_frozen_of Q7.out 0; have hyq1 := own_frozen_of Q7.out 1; have hyq2 := own_frozen_of Q7.out 2; have hyq3 := own_frozen_of Q7.out 3; have hyq4 := own_frozen_of Q7.out 4; have hyq5 := own_frozen_of Q7.out 5)
      clear hcq0 hcq1 hcq2 hcq3 hcq4 hcq5 hyq0 hyq1 hyq2 hyq3 hyq4 hyq5
      have S0 := Lib.hid (Q7.out.stored 0 (.string ⟨#[]⟩))
      have S1 := Lib.hid (S0.out.1.stored 1 (.int .i64 0))
      have S2 := Lib.hid (S1.out.1.stored 2 (.int .i64 0))
      have S3 := Lib.hid (S2.out.1.stored 3 (.string ⟨#[]⟩))
      have S4 := Lib.hid (S3.out.1.stored 4 (.int .i64 0))
      have S5 := Lib.hid (S4.out.1.stored 5 (.int .i64 0))
      have k0 := own_cellAt_mid S5.out.1 (j := 0) rfl
      have k1 := own_cellAt_mid S5.out.1 (j := 1) rfl
      have k2 := own_cellAt_mid S5.out.1 (j := 2) rfl
      have k3 := own_cellAt_mid S5.out.1 (j := 3) rfl
      have k4 := own_cellAt_mid S5.out.1 (j := 4) rfl
      have k5 := own_cellAt_mid S5.out.1 (j := 5) rfl
      exact bodyPost_ret (v := .tuple #[.agg #[.string ⟨#[]⟩, .int .i64 0, .int .i64 0, .string ⟨#[]⟩, .int .i64 0, .int .i64 0], .bool false]) (by simp [results, Tryz.results18, go_sem, k0, k1, k2, k3, k4, k5]) rfl ⟨by rw [H.out] <;> rfl, Gx.G G7.out (Gx.trans (Gx.trans (Gx.trans (Gx.trans (Gx.trans S0.out.2 S1.out.2) S2.out.2) S3.out.2) S4.out.2) S5.out.2) (by intro i hi; cases hi; exact Nat.le_refl _)⟩
  by_cases a3 : a = mkB wStop
  · have f1 : (a.toList == [115, 101, 116]) = false := str_no a1
    have f2 : (a.toList == [102, 97, 100, 101]) = false := str_no a2
    have f3 : (a.toList == [115, 116, 111, 112]) = true := by rw [a3]; exact str_yes _
    have HK := Lib.hid (show cuK2 a m = 3 by unfold cuK2; rw [if_neg (fun e => a1 e.1), if_neg (fun e => a2 e.1), if_pos a3])
    clear a1 a2 a3
    have HX := Lib.hid (show cuMk i tv g (cuK2 a m) VL = (⟨i, tv, 0, g, 3, 0⟩ : SCue) by rw [HK.out]; unfold cuMk; rw [if_neg (by decide), if_neg (by decide)])
    have hne1 : ¬ gN = qb := by omega
    have hne2 : ¬ qb = gN := by omega
    have hcc0 := own_cellAt_mid HC.out (j := 0) rfl
    have hcc1 := own_cellAt_mid HC.out (j := 1) rfl
    have hcc2 := own_cellAt_mid HC.out (j := 2) rfl
    have hcc3 := own_cellAt_mid HC.out (j := 3) rfl
    have hcc4 := own_cellAt_mid HC.out (j := 4) rfl
    have hcc5 := own_cellAt_mid HC.out (j := 5) rfl
    have hyc0 := own_frozen_of HC.out 0
    have hyc1 := own_frozen_of HC.out 1
    have hyc2 := own_frozen_of HC.out 2
    have hyc3 := own_frozen_of HC.out 3
    have hyc4 := own_frozen_of HC.out 4
    have hyc5 := own_frozen_of HC.out 5
    have HCs := HC
    skip
    have T0 := Lib.hid (HC.out.stored 4 (.int .i64 3))
    have Qz0 := Lib.hid (own_Gx HQ2.out T0.out.2 (.inr (by simp [Value.ownBlock]; omega)))
    have Gz0 := Lib.hid (Gx.G G0.out T0.out.2 (by intro i hi; cases hi; omega))
    have Cy := Lib.hid T0.out.1
    have Qy := Qz0
    have Gy := Gz0
    clear T0 Qz0 Gz0
    have KV := Lib.hid (ValidCue_any (⟨i, tv, 0, g, 3, 0⟩ : SCue) (wx.setCell ⟨qb, 4, none⟩ (.int .i64 3)) HWF.out)
    have HR := Lib.hid (HX0.out _ HX.out)
    have hcd0 := own_cellAt_mid Cy.out (j := 0) rfl
    have hcd1 := own_cellAt_mid Cy.out (j := 1) rfl
    have hcd2 := own_cellAt_mid Cy.out (j := 2) rfl
    have hcd3 := own_cellAt_mid Cy.out (j := 3) rfl
    have hcd4 := own_cellAt_mid Cy.out (j := 4) rfl
    have hcd5 := own_cellAt_mid Cy.out (j := 5) rfl
    cases hv : vcuB (⟨i, tv, 0, g, 3, 0⟩ : SCue)
    · have H := Lib.hid (show R = (cuZ, false) by rw [HR.out, if_neg (fun e => by rw [hv] at e; exact absurd e.1 (by decide))])
      rw [hv] at KV
      clear hv
      go_wp2_with (go_at_call 36; (with_reducible refine KV.out.mono ?_); rintro e w7 ⟨rfl, g7⟩; have G7 := Lib.hid (Gy.out.trans g7); have Q7 := Lib.hid (own_G Qy.out g7); have C7 := Lib.hid (own_G Cy.out g7); clear g7; clear hcd0 hcd1 hcd2 hcd3 hcd4 hcd5; clear hcc0 hcc1 hcc2 hcc3 hcc4 hcc5 hyc0 hyc1 hyc2 hyc3 hyc4 hyc5; have hcq0 := own_cellAt_mid Q7.out (j := 0) rfl; have hcq1 := own_cellAt_mid Q7.out (j := 1) rfl; have hcq2 := own_cellAt_mid Q7.out (j := 2) rfl; have hcq3 := own_cellAt_mid Q7.out (j := 3) rfl; have hcq4 := own_cellAt_mid Q7.out (j := 4) rfl; have hcq5 := own_cellAt_mid Q7.out (j := 5) rfl; have hyq0 := own_frozen_of Q7.out 0; have hyq1 := own_frozen_of Q7.out 1; have hyq2 := own_frozen_of Q7.out 2; have hyq3 := own_frozen_of Q7.out 3; have hyq4 := own_frozen_of Q7.out 4; have hyq5 := own_frozen_of Q7.out 5)
      clear hcq0 hcq1 hcq2 hcq3 hcq4 hcq5 hyq0 hyq1 hyq2 hyq3 hyq4 hyq5
      have S0 := Lib.hid (Q7.out.stored 0 (.string ⟨#[]⟩))
      have S1 := Lib.hid (S0.out.1.stored 1 (.int .i64 0))
      have S2 := Lib.hid (S1.out.1.stored 2 (.int .i64 0))
      have S3 := Lib.hid (S2.out.1.stored 3 (.string ⟨#[]⟩))
      have S4 := Lib.hid (S3.out.1.stored 4 (.int .i64 0))
      have S5 := Lib.hid (S4.out.1.stored 5 (.int .i64 0))
      have k0 := own_cellAt_mid S5.out.1 (j := 0) rfl
      have k1 := own_cellAt_mid S5.out.1 (j := 1) rfl
      have k2 := own_cellAt_mid S5.out.1 (j := 2) rfl
      have k3 := own_cellAt_mid S5.out.1 (j := 3) rfl
      have k4 := own_cellAt_mid S5.out.1 (j := 4) rfl
      have k5 := own_cellAt_mid S5.out.1 (j := 5) rfl
      exact bodyPost_ret (v := .tuple #[.agg #[.string ⟨#[]⟩, .int .i64 0, .int .i64 0, .string ⟨#[]⟩, .int .i64 0, .int .i64 0], .bool false]) (by simp [results, Tryz.results18, go_sem, k0, k1, k2, k3, k4, k5]) rfl ⟨by rw [H.out] <;> rfl, Gx.G G7.out (Gx.trans (Gx.trans (Gx.trans (Gx.trans (Gx.trans S0.out.2 S1.out.2) S2.out.2) S3.out.2) S4.out.2) S5.out.2) (by intro i hi; cases hi; exact Nat.le_refl _)⟩
    have KT := Lib.hid (fun (W : World) (gg : G w W) => iCueText_yes (⟨i, tv, 0, g, 3, 0⟩ : SCue) hv HWF.out W (HE.out.G gg).tab)
    by_cases he : cueT (⟨i, tv, 0, g, 3, 0⟩ : SCue) = s
    · have H := Lib.hid (show R = ((⟨i, tv, 0, g, 3, 0⟩ : SCue), true) by rw [HR.out, if_pos ⟨hv, he⟩])
      rw [hv] at KV
      rw [he] at KT
      have hes : (s.toList == s.toList) = true := by simp
      clear hv he
      go_wp2_with (first | (go_at_call 36; (with_reducible refine KV.out.mono ?_); rintro e w7 ⟨rfl, g7⟩; have G7 := Lib.hid (Gy.out.trans g7); have Q7 := Lib.hid (own_G Qy.out g7); have C7 := Lib.hid (own_G Cy.out g7); clear g7; clear hcd0 hcd1 hcd2 hcd3 hcd4 hcd5; clear hcc0 hcc1 hcc2 hcc3 hcc4 hcc5 hyc0 hyc1 hyc2 hyc3 hyc4 hyc5; have hcc0 := own_cellAt_mid C7.out (j := 0) rfl; have hcc1 := own_cellAt_mid C7.out (j := 1) rfl; have hcc2 := own_cellAt_mid C7.out (j := 2) rfl; have hcc3 := own_cellAt_mid C7.out (j := 3) rfl; have hcc4 := own_cellAt_mid C7.out (j := 4) rfl; have hcc5 := own_cellAt_mid C7.out (j := 5) rfl) | (go_at_call 21; (with_reducible refine (KT.out _ G7.out).mono ?_); rintro e w8 ⟨rfl, g8⟩; have G8 := Lib.hid (G7.out.trans g8); have Q8 := Lib.hid (own_G Q7.out g8); have C8 := Lib.hid (own_G C7.out g8); clear g8; clear hcc0 hcc1 hcc2 hcc3 hcc4 hcc5; have hcc0 := own_cellAt_mid C8.out (j := 0) rfl; have hcc1 := own_cellAt_mid C8.out (j := 1) rfl; have hcc2 := own_cellAt_mid C8.out (j := 2) rfl; have hcc3 := own_cellAt_mid C8.out (j := 3) rfl; have hcc4 := own_cellAt_mid C8.out (j := 4) rfl; have hcc5 := own_cellAt_mid C8.out (j := 5) rfl; have hcq0 := own_cellAt_mid Q8.out (j := 0) rfl; have hcq1 := own_cellAt_mid Q8.out (j := 1) rfl; have hcq2 := own_cellAt_mid Q8.out (j := 2) rfl; have hcq3 := own_cellAt_mid Q8.out (j := 3) rfl; have hcq4 := own_cellAt_mid Q8.out (j := 4) rfl; have hcq5 := own_cellAt_mid Q8.out (j := 5) rfl; have hyq0 := own_frozen_of Q8.out 0; have hyq1 := own_frozen_of Q8.out 1; have hyq2 := own_frozen_of Q8.out 2; have hyq3 := own_frozen_of Q8.out 3; have hyq4 := own_frozen_of Q8.out 4; have hyq5 := own_frozen_of Q8.out 5))
      clear hcq0 hcq1 hcq2 hcq3 hcq4 hcq5 hyq0 hyq1 hyq2 hyq3 hyq4 hyq5
      clear hcc0 hcc1 hcc2 hcc3 hcc4 hcc5
      have S0 := Lib.hid (Q8.out.stored 0 (.string i))
      have S1 := Lib.hid (S0.out.1.stored 1 (.int .i64 tv))
      have S2 := Lib.hid (S1.out.1.stored 2 (.int .i64 0))
      have S3 := Lib.hid (S2.out.1.stored 3 (.string g))
      have S4 := Lib.hid (S3.out.1.stored 4 (.int .i64 3))
      have S5 := Lib.hid (S4.out.1.stored 5 (.int .i64 0))
      have k0 := own_cellAt_mid S5.out.1 (j := 0) rfl
      have k1 := own_cellAt_mid S5.out.1 (j := 1) rfl
      have k2 := own_cellAt_mid S5.out.1 (j := 2) rfl
      have k3 := own_cellAt_mid S5.out.1 (j := 3) rfl
      have k4 := own_cellAt_mid S5.out.1 (j := 4) rfl
      have k5 := own_cellAt_mid S5.out.1 (j := 5) rfl
      exact bodyPost_ret (v := .tuple #[.agg #[.string i, .int .i64 tv, .int .i64 0, .string g, .int .i64 3, .int .i64 0], .bool true]) (by simp [results, Tryz.results18, go_sem, k0, k1, k2, k3, k4, k5]) rfl ⟨by rw [H.out] <;> rfl, Gx.G G8.out (Gx.trans (Gx.trans (Gx.trans (Gx.trans (Gx.trans S0.out.2 S1.out.2) S2.out.2) S3.out.2) S4.out.2) S5.out.2) (by intro i hi; cases hi; exact Nat.le_refl _)⟩
    · have H := Lib.hid (show R = (cuZ, false) by rw [HR.out, if_neg (fun e => he e.2)])
      rw [hv] at KV
      obtain ⟨T, HT⟩ : ∃ T, Hid (cueT (⟨i, tv, 0, g, 3, 0⟩ : SCue) = T) := ⟨_, rfl⟩
      rw [HT.out] at KT he
      have hes : (T.toList == s.toList) = false := by
        rw [beq_eq_false_iff_ne]
        intro e
        apply he
        apply ByteArray.ext
        apply Array.toList_inj.1
        rw [← ByteArray.toList_eq, ← ByteArray.toList_eq]
        exact e
      clear hv he
      go_wp2_with (first | (go_at_call 36; (with_reducible refine KV.out.mono ?_); rintro e w7 ⟨rfl, g7⟩; have G7 := Lib.hid (Gy.out.trans g7); have Q7 := Lib.hid (own_G Qy.out g7); have C7 := Lib.hid (own_G Cy.out g7); clear g7; clear hcd0 hcd1 hcd2 hcd3 hcd4 hcd5; clear hcc0 hcc1 hcc2 hcc3 hcc4 hcc5 hyc0 hyc1 hyc2 hyc3 hyc4 hyc5; have hcc0 := own_cellAt_mid C7.out (j := 0) rfl; have hcc1 := own_cellAt_mid C7.out (j := 1) rfl; have hcc2 := own_cellAt_mid C7.out (j := 2) rfl; have hcc3 := own_cellAt_mid C7.out (j := 3) rfl; have hcc4 := own_cellAt_mid C7.out (j := 4) rfl; have hcc5 := own_cellAt_mid C7.out (j := 5) rfl) | (go_at_call 21; (with_reducible refine (KT.out _ G7.out).mono ?_); rintro e w8 ⟨rfl, g8⟩; have G8 := Lib.hid (G7.out.trans g8); have Q8 := Lib.hid (own_G Q7.out g8); clear g8; clear hcc0 hcc1 hcc2 hcc3 hcc4 hcc5; have hcq0 := own_cellAt_mid Q8.out (j := 0) rfl; have hcq1 := own_cellAt_mid Q8.out (j := 1) rfl; have hcq2 := own_cellAt_mid Q8.out (j := 2) rfl; have hcq3 := own_cellAt_mid Q8.out (j := 3) rfl; have hcq4 := own_cellAt_mid Q8.out (j := 4) rfl; have hcq5 := own_cellAt_mid Q8.out (j := 5) rfl; have hyq0 := own_frozen_of Q8.out 0; have hyq1 := own_frozen_of Q8.out 1; have hyq2 := own_frozen_of Q8.out 2; have hyq3 := own_frozen_of Q8.out 3; have hyq4 := own_frozen_of Q8.out 4; have hyq5 := own_frozen_of Q8.out 5))
      clear hcq0 hcq1 hcq2 hcq3 hcq4 hcq5 hyq0 hyq1 hyq2 hyq3 hyq4 hyq5
      have S0 := Lib.hid (Q8.out.stored 0 (.string ⟨#[]⟩))
      have S1 := Lib.hid (S0.out.1.stored 1 (.int .i64 0))
      have S2 := Lib.hid (S1.out.1.stored 2 (.int .i64 0))
      have S3 := Lib.hid (S2.out.1.stored 3 (.string ⟨#[]⟩))
      have S4 := Lib.hid (S3.out.1.stored 4 (.int .i64 0))
      have S5 := Lib.hid (S4.out.1.stored 5 (.int .i64 0))
      have k0 := own_cellAt_mid S5.out.1 (j := 0) rfl
      have k1 := own_cellAt_mid S5.out.1 (j := 1) rfl
      have k2 := own_cellAt_mid S5.out.1 (j := 2) rfl
      have k3 := own_cellAt_mid S5.out.1 (j := 3) rfl
      have k4 := own_cellAt_mid S5.out.1 (j := 4) rfl
      have k5 := own_cellAt_mid S5.out.1 (j := 5) rfl
      exact bodyPost_ret (v := .tuple #[.agg #[.string ⟨#[]⟩, .int .i64 0, .int .i64 0, .string ⟨#[]⟩, .int .i64 0, .int .i64 0], .bool false]) (by simp [results, Tryz.results18, go_sem, k0, k1, k2, k3, k4, k5]) rfl ⟨by rw [H.out] <;> rfl, Gx.G G8.out (Gx.trans (Gx.trans (Gx.trans (Gx.trans (Gx.trans S0.out.2 S1.out.2) S2.out.2) S3.out.2) S4.out.2) S5.out.2) (by intro i hi; cases hi; exact Nat.le_refl _)⟩
  · have f1 : (a.toList == [115, 101, 116]) = false := str_no a1
    have f2 : (a.toList == [102, 97, 100, 101]) = false := str_no a2
    have f3 : (a.toList == [115, 116, 111, 112]) = false := str_no a3
    have HK := Lib.hid (show cuK2 a m = 0 by unfold cuK2; rw [if_neg (fun e => a1 e.1), if_neg (fun e => a2 e.1), if_neg a3])
    clear a1 a2 a3
    have HX := Lib.hid (show cuMk i tv g (cuK2 a m) VL = (⟨i, tv, 0, g, 0, 0⟩ : SCue) by rw [HK.out]; unfold cuMk; rw [if_neg (by decide), if_neg (by decide)])
    have hne1 : ¬ gN = qb := by omega
    have hne2 : ¬ qb = gN := by omega
    have hcc0 := own_cellAt_mid HC.out (j := 0) rfl
    have hcc1 := own_cellAt_mid HC.out (j := 1) rfl
    have hcc2 := own_cellAt_mid HC.out (j := 2) rfl
    have hcc3 := own_cellAt_mid HC.out (j := 3) rfl
    have hcc4 := own_cellAt_mid HC.out (j := 4) rfl
    have hcc5 := own_cellAt_mid HC.out (j := 5) rfl
    have hyc0 := own_frozen_of HC.out 0
    have hyc1 := own_frozen_of HC.out 1
    have hyc2 := own_frozen_of HC.out 2
    have hyc3 := own_frozen_of HC.out 3
    have hyc4 := own_frozen_of HC.out 4
    have hyc5 := own_frozen_of HC.out 5
    have HCs := HC
    skip
    clear hcc0 hcc1 hcc2 hcc3 hcc4 hcc5 hyc0 hyc1 hyc2 hyc3 hyc4 hyc5
    obtain ⟨wy, HWY⟩ : ∃ wy : World, wy = wx := ⟨_, rfl⟩
    subst HWY
    have Cy := HC
    have Qy := HQ2
    have Gy := G0
    have KV := Lib.hid (ValidCue_any (⟨i, tv, 0, g, 0, 0⟩ : SCue) wy HWF.out)
    have HR := Lib.hid (HX0.out _ HX.out)
    have hcc0 := own_cellAt_mid Cy.out (j := 0) rfl
    have hcc1 := own_cellAt_mid Cy.out (j := 1) rfl
    have hcc2 := own_cellAt_mid Cy.out (j := 2) rfl
    have hcc3 := own_cellAt_mid Cy.out (j := 3) rfl
    have hcc4 := own_cellAt_mid Cy.out (j := 4) rfl
    have hcc5 := own_cellAt_mid Cy.out (j := 5) rfl
    have hv : vcuB (⟨i, tv, 0, g, 0, 0⟩ : SCue) = false := by
      cases hq : vcuB (⟨i, tv, 0, g, 0, 0⟩ : SCue)
      · rfl
      · have := vcuB_act hq
        simp only at this
        omega
    have H := Lib.hid (show R = (cuZ, false) by rw [HR.out, if_neg (fun e => by rw [hv] at e; exact absurd e.1 (by decide))])
    rw [hv] at KV
    clear hv
    go_wp2_with (go_at_call 36; (with_reducible refine KV.out.mono ?_); rintro e w7 ⟨rfl, g7⟩; have G7 := Lib.hid (Gy.out.trans g7); have Q7 := Lib.hid (own_G Qy.out g7); have C7 := Lib.hid (own_G Cy.out g7); clear g7; clear hcc0 hcc1 hcc2 hcc3 hcc4 hcc5; have hcq0 := own_cellAt_mid Q7.out (j := 0) rfl; have hcq1 := own_cellAt_mid Q7.out (j := 1) rfl; have hcq2 := own_cellAt_mid Q7.out (j := 2) rfl; have hcq3 := own_cellAt_mid Q7.out (j := 3) rfl; have hcq4 := own_cellAt_mid Q7.out (j := 4) rfl; have hcq5 := own_cellAt_mid Q7.out (j := 5) rfl; have hyq0 := own_frozen_of Q7.out 0; have hyq1 := own_frozen_of Q7.out 1; have hyq2 := own_frozen_of Q7.out 2; have hyq3 := own_frozen_of Q7.out 3; have hyq4 := own_frozen_of Q7.out 4; have hyq5 := own_frozen_of Q7.out 5)
    clear hcq0 hcq1 hcq2 hcq3 hcq4 hcq5 hyq0 hyq1 hyq2 hyq3 hyq4 hyq5
    have S0 := Lib.hid (Q7.out.stored 0 (.string ⟨#[]⟩))
    have S1 := Lib.hid (S0.out.1.stored 1 (.int .i64 0))
    have S2 := Lib.hid (S1.out.1.stored 2 (.int .i64 0))
    have S3 := Lib.hid (S2.out.1.stored 3 (.string ⟨#[]⟩))
    have S4 := Lib.hid (S3.out.1.stored 4 (.int .i64 0))
    have S5 := Lib.hid (S4.out.1.stored 5 (.int .i64 0))
    have k0 := own_cellAt_mid S5.out.1 (j := 0) rfl
    have k1 := own_cellAt_mid S5.out.1 (j := 1) rfl
    have k2 := own_cellAt_mid S5.out.1 (j := 2) rfl
    have k3 := own_cellAt_mid S5.out.1 (j := 3) rfl
    have k4 := own_cellAt_mid S5.out.1 (j := 4) rfl
    have k5 := own_cellAt_mid S5.out.1 (j := 5) rfl
    exact bodyPost_ret (v := .tuple #[.agg #[.string ⟨#[]⟩, .int .i64 0, .int .i64 0, .string ⟨#[]⟩, .int .i64 0, .int .i64 0], .bool false]) (by simp [results, Tryz.results18, go_sem, k0, k1, k2, k3, k4, k5]) rfl ⟨by rw [H.out] <;> rfl, Gx.G G7.out (Gx.trans (Gx.trans (Gx.trans (Gx.trans (Gx.trans S0.out.2 S1.out.2) S2.out.2) S3.out.2) S4.out.2) S5.out.2) (by intro i hi; cases hi; exact Nat.le_refl _)⟩
end Go.Proofs.YtecakcgkibemaaaGreatDoor
