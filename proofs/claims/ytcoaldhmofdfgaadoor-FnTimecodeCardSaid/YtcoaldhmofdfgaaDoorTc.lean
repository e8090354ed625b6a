/-
  Walks: frames and time codes.
-/
import Derived.Test.YtcoaldhmofdfgaaDoorTcM
import Derived.Test.YtcoaldhmofdfgaaDoorTxt
import Derived.Test.YtcoaldhmofdfgaaDoorIns
namespace Go.Proofs.YtcoaldhmofdfgaaDoor
open Go.RowKit

set_option maxHeartbeats 1000000 in
theorem isFrameRate_any (r : Int) (w : World) :
    Calls Tryd.prog 44 #[.int .i64 r] w fun e w' => e = .returned (.bool (rateB r)) ∧ w = w' := by
  by_cases h1 : r = 24
  · subst h1
    go_enter Tryd.func44, Tryd.ntmps44
    go_wp2
    go_ret
    exact ⟨rfl, rfl⟩
  by_cases h2 : r = 25
  · subst h2
    go_enter Tryd.func44, Tryd.ntmps44
    go_wp2
    go_ret
    exact ⟨rfl, rfl⟩
  by_cases h3 : r = 30
  · subst h3
    go_enter Tryd.func44, Tryd.ntmps44
    go_wp2
    go_ret
    exact ⟨rfl, rfl⟩
  have H := Lib.hid (rateB_no.2 ⟨h1, h2, h3⟩)
  have e1 : (r == 24) = false := by simp [h1]
  have e2 : (r == 25) = false := by simp [h2]
  have e3 : (r == 30) = false := by simp [h3]
  clear h1 h2 h3
  go_enter Tryd.func44, Tryd.ntmps44
  go_wp2
  go_ret
  exact ⟨ret_bool H.out.symm, rfl⟩
set_option maxHeartbeats 1000000 in
theorem l16Rate_any (r : Int) (w : World) :
    Calls Tryd.prog 76 #[.int .i64 r] w fun e w' => e = .returned (.bool (rateB r)) ∧ w = w' := by
  by_cases h1 : r = 24
  · subst h1
    go_enter Tryd.func76, Tryd.ntmps76
    go_wp2
    go_ret
    exact ⟨rfl, rfl⟩
  by_cases h2 : r = 25
  · subst h2
    go_enter Tryd.func76, Tryd.ntmps76
    go_wp2
    go_ret
    exact ⟨rfl, rfl⟩
  by_cases h3 : r = 30
  · subst h3
    go_enter Tryd.func76, Tryd.ntmps76
    go_wp2
    go_ret
    exact ⟨rfl, rfl⟩
  have H := Lib.hid (rateB_no.2 ⟨h1, h2, h3⟩)
  have e1 : (r == 24) = false := by simp [h1]
  have e2 : (r == 25) = false := by simp [h2]
  have e3 : (r == 30) = false := by simp [h3]
  clear h1 h2 h3
  go_enter Tryd.func76, Tryd.ntmps76
  go_wp2
  go_ret
  exact ⟨ret_bool H.out.symm, rfl⟩

theorem tcP_in {h m s f r : Int} (hv : tcP ⟨h, m, s, f, r⟩) : rateB r = true ∧ inB h 0 23 = true ∧ inB m 0 59 = true ∧ inB s 0 59 = true ∧ inB f 0 (r - 1) = true := by
  obtain ⟨hr, hh, hm, hs, hf, -⟩ := hv
  exact ⟨rateB_iff.2 hr, inB_mk hh, inB_mk hm, inB_mk hs, inB_mk hf⟩
theorem tcP_last {h m s f r : Int} (hv : tcP ⟨h, m, s, f, r⟩) : (r == 30) = false ∨ (r = 30 ∧ (decide (0 < s) || decide (1 < f) || m % 10 == 0) = true) := by
  obtain ⟨-, hh, hm, hs, hf, hl⟩ := hv
  simp only at hl
  by_cases h30 : r = 30
  · right
    refine ⟨h30, ?_⟩
    simp only [Bool.or_eq_true, decide_eq_true_eq, beq_iff_eq]
    have := hl h30
    omega
  · left; simp [h30]

set_option maxRecDepth 20000 in
set_option maxHeartbeats 4000000 in
theorem iValidCode_yes (h m s f r : Int) (hv : tcP ⟨h, m, s, f, r⟩) (w : World) :
    Calls Tryd.prog 48 #[.agg #[.int .i64 h, .int .i64 m, .int .i64 s, .int .i64 f, .int .i64 r]] w fun e w' => e = .returned (.bool true) ∧ G w w' := by
  obtain ⟨q1, q2, q3, q4, q5⟩ := tcP_in hv
  have hf := inB_iff.1 q5
  have hr := rateB_iff.1 q1
  have hm0 := inB_iff.1 q3
  have hm : Int.tmod m 10 = m % 10 := Int.tmod_eq_emod_of_nonneg hm0.1
  have K1 := Lib.hid (fun (W : World) => isFrameRate_any r W)
  rw [q1] at K1
  have HB := Lib.hid (tcP_last hv)
  clear hv
  rcases hr with rfl | rfl | rfl
  · replace q5 : inB f 0 23 = true := q5
    go_enter Tryd.func48, Tryd.ntmps48
    go_wp2_with (first | (go_at_call 44; (with_reducible refine (K1.out _).mono ?_); rintro e w' ⟨rfl, rfl⟩) | (go_at_call 45; refine (within_any _ _ _ _).mono ?_; rintro e w' ⟨rfl, rfl⟩))
    go_ret
    exact ⟨rfl, (G.refl _).alloc _⟩
  · replace q5 : inB f 0 24 = true := q5
    go_enter Tryd.func48, Tryd.ntmps48
    go_wp2_with (first | (go_at_call 44; (with_reducible refine (K1.out _).mono ?_); rintro e w' ⟨rfl, rfl⟩) | (go_at_call 45; refine (within_any _ _ _ _).mono ?_; rintro e w' ⟨rfl, rfl⟩))
    go_ret
    exact ⟨rfl, (G.refl _).alloc _⟩
  · replace q5 : inB f 0 29 = true := q5
    have HC := Lib.hid (show (decide (0 < s) || decide (1 < f) || m % 10 == 0) = true by rcases HB.out with k | k; (cases k); exact k.2)
    go_enter Tryd.func48, Tryd.ntmps48
    go_wp2_with (first | (go_at_call 44; (with_reducible refine (K1.out _).mono ?_); rintro e w' ⟨rfl, rfl⟩) | (go_at_call 45; refine (within_any _ _ _ _).mono ?_; rintro e w' ⟨rfl, rfl⟩))
    all_goals (go_ret; first | exact ⟨rfl, (G.refl _).alloc _⟩ | exact ⟨ret_bool HC.out, (G.refl _).alloc _⟩)

set_option maxRecDepth 20000 in
set_option maxHeartbeats 4000000 in
theorem l16Ok_yes (h m s f r : Int) (hv : tcP ⟨h, m, s, f, r⟩) (b : Nat) (w : World) (hc0 : w.cell? ⟨b, 0, none⟩ = some (.int .i64 h)) (hc1 : w.cell? ⟨b, 1, none⟩ = some (.int .i64 m)) (hc2 : w.cell? ⟨b, 2, none⟩ = some (.int .i64 s)) (hc3 : w.cell? ⟨b, 3, none⟩ = some (.int .i64 f)) (hc4 : w.cell? ⟨b, 4, none⟩ = some (.int .i64 r)) :
    Calls Tryd.prog 52 #[.pointer (some ⟨b, 0, none⟩)] w fun e w' => e = .returned (.bool true) ∧ G w w' := by
  obtain ⟨q1, q2, q3, q4, q5⟩ := tcP_in hv
  have hf := inB_iff.1 q5
  have hr := rateB_iff.1 q1
  have hm0 := inB_iff.1 q3
  have hm : Int.tmod m 10 = m % 10 := Int.tmod_eq_emod_of_nonneg hm0.1
  have K1 := Lib.hid (fun (W : World) => l16Rate_any r W)
  rw [q1] at K1
  have HB := Lib.hid (tcP_last hv)
  have HC0 := Lib.hid hc0
  have HC1 := Lib.hid hc1
  have HC2 := Lib.hid hc2
  have HC3 := Lib.hid hc3
  have HC4 := Lib.hid hc4
  have ga0 := cellR hc0
  have ga1 := cellR hc1
  have ga2 := cellR hc2
  have ga3 := cellR hc3
  have ga4 := cellR hc4
  clear hv hc0 hc1 hc2 hc3 hc4
  rcases hr with rfl | rfl | rfl
  · replace q5 : inB f 0 23 = true := q5
    go_enter Tryd.func52, Tryd.ntmps52
    go_wp2
    refine region_quiet_G (by kernel_rfl) (by kernel_rfl) ?_; (repeat (go_big_quiet_step ((first | (go_at_call 76; exact quiet_G_same (K1.out _)) | (go_at_call 61; exact quiet_G_same (l00In_any _ _ _ _)))))); refine wpQuiet_nil ?_
    intro w2 hg2
    have hc1 := hg2.cell HC1.out
    have hc2 := hg2.cell HC2.out
    have hc3 := hg2.cell HC3.out
    have hc4 := hg2.cell HC4.out
    have G2 := Lib.hid hg2
    clear ga0 ga1 ga2 ga3 ga4 hg2
    go_wp2
    go_ret
    exact ⟨rfl, G2.out⟩
  · replace q5 : inB f 0 24 = true := q5
    go_enter Tryd.func52, Tryd.ntmps52
    go_wp2
    refine region_quiet_G (by kernel_rfl) (by kernel_rfl) ?_; (repeat (go_big_quiet_step ((first | (go_at_call 76; exact quiet_G_same (K1.out _)) | (go_at_call 61; exact quiet_G_same (l00In_any _ _ _ _)))))); refine wpQuiet_nil ?_
    intro w2 hg2
    have hc1 := hg2.cell HC1.out
    have hc2 := hg2.cell HC2.out
    have hc3 := hg2.cell HC3.out
    have hc4 := hg2.cell HC4.out
    have G2 := Lib.hid hg2
    clear ga0 ga1 ga2 ga3 ga4 hg2
    go_wp2
    go_ret
    exact ⟨rfl, G2.out⟩
  · replace q5 : inB f 0 29 = true := q5
    have HC := Lib.hid (show (decide (0 < s) || decide (1 < f) || m % 10 == 0) = true by rcases HB.out with k | k; (cases k); exact k.2)
    have k5 : (m % 10 == 0) = true ∨ (m % 10 == 0) = false := by cases (m % 10 == 0) <;> simp
    rcases k5 with k6 | k6
    · go_enter Tryd.func52, Tryd.ntmps52
      go_wp2
      refine region_quiet_G (by kernel_rfl) (by kernel_rfl) ?_; (repeat (go_big_quiet_step ((first | (go_at_call 76; exact quiet_G_same (K1.out _)) | (go_at_call 61; exact quiet_G_same (l00In_any _ _ _ _)))))); refine wpQuiet_nil ?_
      intro w2 hg2
      have hc1 := hg2.cell HC1.out
      have hc2 := hg2.cell HC2.out
      have hc3 := hg2.cell HC3.out
      have hc4 := hg2.cell HC4.out
      have G2 := Lib.hid hg2
      clear ga0 ga1 ga2 ga3 ga4 hg2
      go_wp2
      go_ret
      first | exact ⟨rfl, G2.out⟩ | exact ⟨ret_bool (by simp), G2.out⟩ | exact ⟨ret_bool HC.out, G2.out⟩
    · have HB2 := Lib.hid (show (decide (0 < s) || decide (1 < f)) = true by have := HC.out; rw [k6, Bool.or_false] at this; exact this)
      go_enter Tryd.func52, Tryd.ntmps52
      go_wp2
      refine region_quiet_G (by kernel_rfl) (by kernel_rfl) ?_; (repeat (go_big_quiet_step ((first | (go_at_call 76; exact quiet_G_same (K1.out _)) | (go_at_call 61; exact quiet_G_same (l00In_any _ _ _ _)))))); refine wpQuiet_nil ?_
      intro w2 hg2
      have hc1 := hg2.cell HC1.out
      have hc2 := hg2.cell HC2.out
      have hc3 := hg2.cell HC3.out
      have hc4 := hg2.cell HC4.out
      have G2 := Lib.hid hg2
      clear ga0 ga1 ga2 ga3 ga4 hg2
      go_wp2
      all_goals (go_ret; first | exact ⟨rfl, G2.out⟩ | exact ⟨ret_bool HB2.out, G2.out⟩ | exact ⟨ret_bool (by have := HB2.out; simpa using this), G2.out⟩ | exact ⟨ret_bool HC.out, G2.out⟩)

set_option maxRecDepth 20000 in
set_option maxHeartbeats 4000000 in
theorem sValidCode_yes (h m s f r : Int) (hv : tcP ⟨h, m, s, f, r⟩) (w : World) :
    Calls Tryd.prog 22 #[.agg #[.int .i64 h, .int .i64 m, .int .i64 s, .int .i64 f, .int .i64 r]] w fun e w' => e = .returned (.bool true) ∧ G w w' := by
  have K := Lib.hid (fun (b : Nat) (W : World) => l16Ok_yes h m s f r hv b W)
  have GA := Lib.hid ((G.refl w).alloc (.cells #[.int .i64 h, .int .i64 m, .int .i64 s, .int .i64 f, .int .i64 r] 38))
  have C0 := Lib.hid (show (w.alloc (.cells #[.int .i64 h, .int .i64 m, .int .i64 s, .int .i64 f, .int .i64 r] 38)).cell? ⟨w.heap.size, 0, none⟩ = some (.int .i64 h) from World.cell?_alloc_at _ _ _ _ rfl)
  have C1 := Lib.hid (show (w.alloc (.cells #[.int .i64 h, .int .i64 m, .int .i64 s, .int .i64 f, .int .i64 r] 38)).cell? ⟨w.heap.size, 1, none⟩ = some (.int .i64 m) from World.cell?_alloc_at _ _ _ _ rfl)
  have C2 := Lib.hid (show (w.alloc (.cells #[.int .i64 h, .int .i64 m, .int .i64 s, .int .i64 f, .int .i64 r] 38)).cell? ⟨w.heap.size, 2, none⟩ = some (.int .i64 s) from World.cell?_alloc_at _ _ _ _ rfl)
  have C3 := Lib.hid (show (w.alloc (.cells #[.int .i64 h, .int .i64 m, .int .i64 s, .int .i64 f, .int .i64 r] 38)).cell? ⟨w.heap.size, 3, none⟩ = some (.int .i64 f) from World.cell?_alloc_at _ _ _ _ rfl)
  have C4 := Lib.hid (show (w.alloc (.cells #[.int .i64 h, .int .i64 m, .int .i64 s, .int .i64 f, .int .i64 r] 38)).cell? ⟨w.heap.size, 4, none⟩ = some (.int .i64 r) from World.cell?_alloc_at _ _ _ _ rfl)
  clear hv
  go_enter Tryd.func22, Tryd.ntmps22
  go_wp2_with (go_at_call 52; (with_reducible refine (K.out _ _ C0.out C1.out C2.out C3.out C4.out).mono ?_); rintro e w1 ⟨rfl, g1⟩; have G1 := Lib.hid (GA.out.trans g1); clear g1)
  go_ret
  exact ⟨rfl, G1.out⟩

set_option maxRecDepth 20000 in
set_option maxHeartbeats 4000000 in
theorem frameOf_any (h m s f r : Int) (hv : tcP ⟨h, m, s, f, r⟩) (w : World) :
    Calls Tryd.prog 49 #[.agg #[.int .i64 h, .int .i64 m, .int .i64 s, .int .i64 f, .int .i64 r]] w fun e w' => e = .returned (.int .i64 (frN ⟨h, m, s, f, r⟩)) ∧ G w w' := by
  obtain ⟨hr, hh, hm, hs, hf, -⟩ := hv
  simp only at hr hh hm hs hf
  have hb1 : 0 ≤ h * 60 + m ∧ h * 60 + m ≤ 1439 := by omega
  have hb2 : 0 ≤ (h * 60 + m) * 60 + s ∧ (h * 60 + m) * 60 + s ≤ 86399 := by omega
  have hd : Int.tdiv (h * 60 + m) 10 = (h * 60 + m) / 10 := Int.tdiv_eq_ediv_of_nonneg hb1.1
  have H := Lib.hid (show frN ⟨h, m, s, f, r⟩ = ((h * 60 + m) * 60 + s) * r + f - (if r = 30 then 2 * ((h * 60 + m) - (h * 60 + m) / 10) else 0) from rfl)
  obtain ⟨N, HN⟩ : ∃ N, Hid (frN ⟨h, m, s, f, r⟩ = N) := ⟨_, rfl⟩
  rw [HN.out] at H ⊢
  rcases hr with rfl | rfl | rfl
  · go_enter Tryd.func49, Tryd.ntmps49
    go_wp2
    go_ret
    exact ⟨ret_int (by rw [H.out, if_neg (by decide)]; omega), (G.refl _).alloc _⟩
  · go_enter Tryd.func49, Tryd.ntmps49
    go_wp2
    go_ret
    exact ⟨ret_int (by rw [H.out, if_neg (by decide)]; omega), (G.refl _).alloc _⟩
  · go_enter Tryd.func49, Tryd.ntmps49
    go_wp2
    go_ret
    exact ⟨ret_int (by rw [H.out]; simp only [if_true]), (G.refl _).alloc _⟩

set_option maxRecDepth 20000 in
set_option maxHeartbeats 4000000 in
theorem FrameOf_yes (h m s f r : Int) (hv : tcP ⟨h, m, s, f, r⟩) (w : World) :
    Calls Tryd.prog 19 #[.agg #[.int .i64 h, .int .i64 m, .int .i64 s, .int .i64 f, .int .i64 r]] w fun e w' => e = .returned (.tuple #[.int .i64 (frN ⟨h, m, s, f, r⟩), .int .i64 0]) ∧ G w w' := by
  have KV := Lib.hid (fun (W : World) => iValidCode_yes h m s f r hv W)
  have KF := Lib.hid (fun (W : World) => frameOf_any h m s f r hv W)
  have GA := Lib.hid ((G.refl w).alloc (.cells #[.int .i64 h, .int .i64 m, .int .i64 s, .int .i64 f, .int .i64 r] 38))
  have C0 := Lib.hid (show (w.alloc (.cells #[.int .i64 h, .int .i64 m, .int .i64 s, .int .i64 f, .int .i64 r] 38)).cell? ⟨w.heap.size, 0, none⟩ = some (.int .i64 h) from World.cell?_alloc_at _ _ _ _ rfl)
  have C1 := Lib.hid (show (w.alloc (.cells #[.int .i64 h, .int .i64 m, .int .i64 s, .int .i64 f, .int .i64 r] 38)).cell? ⟨w.heap.size, 1, none⟩ = some (.int .i64 m) from World.cell?_alloc_at _ _ _ _ rfl)
  have C2 := Lib.hid (show (w.alloc (.cells #[.int .i64 h, .int .i64 m, .int .i64 s, .int .i64 f, .int .i64 r] 38)).cell? ⟨w.heap.size, 2, none⟩ = some (.int .i64 s) from World.cell?_alloc_at _ _ _ _ rfl)
  have C3 := Lib.hid (show (w.alloc (.cells #[.int .i64 h, .int .i64 m, .int .i64 s, .int .i64 f, .int .i64 r] 38)).cell? ⟨w.heap.size, 3, none⟩ = some (.int .i64 f) from World.cell?_alloc_at _ _ _ _ rfl)
  have C4 := Lib.hid (show (w.alloc (.cells #[.int .i64 h, .int .i64 m, .int .i64 s, .int .i64 f, .int .i64 r] 38)).cell? ⟨w.heap.size, 4, none⟩ = some (.int .i64 r) from World.cell?_alloc_at _ _ _ _ rfl)
  obtain ⟨N, HN⟩ : ∃ N, Hid (frN ⟨h, m, s, f, r⟩ = N) := ⟨_, rfl⟩
  rw [HN.out] at KF ⊢
  clear hv
  go_enter Tryd.func19, Tryd.ntmps19
  go_wp2_with (first | (go_at_call 48; (with_reducible refine (KV.out _).mono ?_); rintro e w1 ⟨rfl, g1⟩; have G1 := Lib.hid (GA.out.trans g1); have c0 := g1.cell C0.out; have c1 := g1.cell C1.out; have c2 := g1.cell C2.out; have c3 := g1.cell C3.out; have c4 := g1.cell C4.out; clear g1) | (go_at_call 49; (with_reducible refine (KF.out _).mono ?_); rintro e w2 ⟨rfl, g2⟩; have G2 := Lib.hid (G1.out.trans g2); clear g2))
  go_ret2
  exact ⟨rfl, G2.out⟩

theorem tmod_nn {a b : Int} (h : 0 ≤ a) : Int.tmod a b = a % b := Int.tmod_eq_emod_of_nonneg h
theorem tdiv_nn {a b : Int} (h : 0 ≤ a) : Int.tdiv a b = a / b := Int.tdiv_eq_ediv_of_nonneg h
set_option maxRecDepth 20000 in
set_option maxHeartbeats 4000000 in
theorem framesOfDay_any (r : Int) (hr : r = 24 ∨ r = 25 ∨ r = 30) (w : World) :
    Calls Tryd.prog 46 #[.int .i64 r] w fun e w' => e = .returned (.int .i64 (dayN r)) ∧ w = w' := by
  rcases hr with rfl | rfl | rfl
  all_goals
    go_enter Tryd.func46, Tryd.ntmps46
    go_wp2
    go_ret
    exact ⟨rfl, rfl⟩
set_option maxRecDepth 20000 in
set_option maxHeartbeats 4000000 in
theorem codeAt_any (n r : Int) (hr : r = 24 ∨ r = 25 ∨ r = 30) (h0 : 0 ≤ n) (h1 : n ≤ 100000000) (w : World) :
    Calls Tryd.prog 47 #[.int .i64 n, .int .i64 r] w fun e w' => e = .returned (.agg #[.int .i64 (cAt n r).Hours, .int .i64 (cAt n r).Minutes, .int .i64 (cAt n r).Seconds, .int .i64 (cAt n r).Frames, .int .i64 r]) ∧ G w w' := by
  rcases hr with rfl | rfl | rfl
  · have HF := Lib.hid (show fullN n 24 = n by unfold fullN; rw [if_neg (by decide)])
    obtain ⟨sc, HSC⟩ : ∃ x, Hid (n / 24 = x) := ⟨_, rfl⟩
    have bsc : 0 ≤ sc ∧ sc ≤ 100000000 := by rw [← HSC.out]; omega
    obtain ⟨hh, HH⟩ : ∃ x, Hid (sc / 3600 = x) := ⟨_, rfl⟩
    have bhh : 0 ≤ hh ∧ hh ≤ 100000000 := by rw [← HH.out]; omega
    obtain ⟨m0, HM0⟩ : ∃ x, Hid (sc / 60 = x) := ⟨_, rfl⟩
    have bm0 : 0 ≤ m0 ∧ m0 ≤ 100000000 := by rw [← HM0.out]; omega
    obtain ⟨mm, HM⟩ : ∃ x, Hid (m0 % 60 = x) := ⟨_, rfl⟩
    have bmm : 0 ≤ mm ∧ mm ≤ 60 := by rw [← HM.out]; omega
    obtain ⟨ss, HS⟩ : ∃ x, Hid (sc % 60 = x) := ⟨_, rfl⟩
    have bss : 0 ≤ ss ∧ ss ≤ 60 := by rw [← HS.out]; omega
    obtain ⟨ff, HF2⟩ : ∃ x, Hid (n % 24 = x) := ⟨_, rfl⟩
    have bff : 0 ≤ ff ∧ ff ≤ 60 := by rw [← HF2.out]; omega
    have t1 : Int.tdiv (n) 24 = sc := by rw [tdiv_nn (by omega), HSC.out]
    have t2 : Int.tdiv sc 3600 = hh := by rw [tdiv_nn (by omega), HH.out]
    have t3 : Int.tdiv sc 60 = m0 := by rw [tdiv_nn (by omega), HM0.out]
    have t4 : Int.tmod m0 60 = mm := by rw [tmod_nn (by omega), HM.out]
    have t5 : Int.tmod sc 60 = ss := by rw [tmod_nn (by omega), HS.out]
    have t6 : Int.tmod (n) 24 = ff := by rw [tmod_nn (by omega), HF2.out]
    go_enter Tryd.func47, Tryd.ntmps47
    go_wp2
    have k0 : (w.alloc (.cells #[.int .i64 hh, .int .i64 mm, .int .i64 ss, .int .i64 ff, .int .i64 24] 38)).cell? ⟨w.heap.size, 0, none⟩ = some (.int .i64 hh) := World.cell?_alloc_at _ _ _ _ rfl
    have k1 : (w.alloc (.cells #[.int .i64 hh, .int .i64 mm, .int .i64 ss, .int .i64 ff, .int .i64 24] 38)).cell? ⟨w.heap.size, 1, none⟩ = some (.int .i64 mm) := World.cell?_alloc_at _ _ _ _ rfl
    have k2 : (w.alloc (.cells #[.int .i64 hh, .int .i64 mm, .int .i64 ss, .int .i64 ff, .int .i64 24] 38)).cell? ⟨w.heap.size, 2, none⟩ = some (.int .i64 ss) := World.cell?_alloc_at _ _ _ _ rfl
    have k3 : (w.alloc (.cells #[.int .i64 hh, .int .i64 mm, .int .i64 ss, .int .i64 ff, .int .i64 24] 38)).cell? ⟨w.heap.size, 3, none⟩ = some (.int .i64 ff) := World.cell?_alloc_at _ _ _ _ rfl
    have k4 : (w.alloc (.cells #[.int .i64 hh, .int .i64 mm, .int .i64 ss, .int .i64 ff, .int .i64 24] 38)).cell? ⟨w.heap.size, 4, none⟩ = some (.int .i64 24) := World.cell?_alloc_at _ _ _ _ rfl
    refine bodyPost_ret (v := .agg #[.int .i64 hh, .int .i64 mm, .int .i64 ss, .int .i64 ff, .int .i64 24]) (by simp [results, Tryd.results47, go_sem, k0, k1, k2, k3, k4]) rfl ⟨?_, (G.refl _).alloc _⟩
    simp only [cAt, HF.out, HSC.out, HH.out, HM0.out, HM.out, HS.out, HF2.out]
  · have HF := Lib.hid (show fullN n 25 = n by unfold fullN; rw [if_neg (by decide)])
    obtain ⟨sc, HSC⟩ : ∃ x, Hid (n / 25 = x) := ⟨_, rfl⟩
    have bsc : 0 ≤ sc ∧ sc ≤ 100000000 := by rw [← HSC.out]; omega
    obtain ⟨hh, HH⟩ : ∃ x, Hid (sc / 3600 = x) := ⟨_, rfl⟩
    have bhh : 0 ≤ hh ∧ hh ≤ 100000000 := by rw [← HH.out]; omega
    obtain ⟨m0, HM0⟩ : ∃ x, Hid (sc / 60 = x) := ⟨_, rfl⟩
    have bm0 : 0 ≤ m0 ∧ m0 ≤ 100000000 := by rw [← HM0.out]; omega
    obtain ⟨mm, HM⟩ : ∃ x, Hid (m0 % 60 = x) := ⟨_, rfl⟩
    have bmm : 0 ≤ mm ∧ mm ≤ 60 := by rw [← HM.out]; omega
    obtain ⟨ss, HS⟩ : ∃ x, Hid (sc % 60 = x) := ⟨_, rfl⟩
    have bss : 0 ≤ ss ∧ ss ≤ 60 := by rw [← HS.out]; omega
    obtain ⟨ff, HF2⟩ : ∃ x, Hid (n % 25 = x) := ⟨_, rfl⟩
    have bff : 0 ≤ ff ∧ ff ≤ 60 := by rw [← HF2.out]; omega
    have t1 : Int.tdiv (n) 25 = sc := by rw [tdiv_nn (by omega), HSC.out]
    have t2 : Int.tdiv sc 3600 = hh := by rw [tdiv_nn (by omega), HH.out]
    have t3 : Int.tdiv sc 60 = m0 := by rw [tdiv_nn (by omega), HM0.out]
    have t4 : Int.tmod m0 60 = mm := by rw [tmod_nn (by omega), HM.out]
    have t5 : Int.tmod sc 60 = ss := by rw [tmod_nn (by omega), HS.out]
    have t6 : Int.tmod (n) 25 = ff := by rw [tmod_nn (by omega), HF2.out]
    go_enter Tryd.func47, Tryd.ntmps47
    go_wp2
    have k0 : (w.alloc (.cells #[.int .i64 hh, .int .i64 mm, .int .i64 ss, .int .i64 ff, .int .i64 25] 38)).cell? ⟨w.heap.size, 0, none⟩ = some (.int .i64 hh) := World.cell?_alloc_at _ _ _ _ rfl
    have k1 : (w.alloc (.cells #[.int .i64 hh, .int .i64 mm, .int .i64 ss, .int .i64 ff, .int .i64 25] 38)).cell? ⟨w.heap.size, 1, none⟩ = some (.int .i64 mm) := World.cell?_alloc_at _ _ _ _ rfl
    have k2 : (w.alloc (.cells #[.int .i64 hh, .int .i64 mm, .int .i64 ss, .int .i64 ff, .int .i64 25] 38)).cell? ⟨w.heap.size, 2, none⟩ = some (.int .i64 ss) := World.cell?_alloc_at _ _ _ _ rfl
    have k3 : (w.alloc (.cells #[.int .i64 hh, .int .i64 mm, .int .i64 ss, .int .i64 ff, .int .i64 25] 38)).cell? ⟨w.heap.size, 3, none⟩ = some (.int .i64 ff) := World.cell?_alloc_at _ _ _ _ rfl
    have k4 : (w.alloc (.cells #[.int .i64 hh, .int .i64 mm, .int .i64 ss, .int .i64 ff, .int .i64 25] 38)).cell? ⟨w.heap.size, 4, none⟩ = some (.int .i64 25) := World.cell?_alloc_at _ _ _ _ rfl
    refine bodyPost_ret (v := .agg #[.int .i64 hh, .int .i64 mm, .int .i64 ss, .int .i64 ff, .int .i64 25]) (by simp [results, Tryd.results47, go_sem, k0, k1, k2, k3, k4]) rfl ⟨?_, (G.refl _).alloc _⟩
    simp only [cAt, HF.out, HSC.out, HH.out, HM0.out, HM.out, HS.out, HF2.out]
  · obtain ⟨q, HQ⟩ : ∃ x, Hid (n % 17982 = x) := ⟨_, rfl⟩
    have bq : 0 ≤ q ∧ q < 17982 := by rw [← HQ.out]; omega
    obtain ⟨t, HT⟩ : ∃ x, Hid (n / 17982 = x) := ⟨_, rfl⟩
    have bt : 0 ≤ t ∧ t ≤ 10000 := by rw [← HT.out]; omega
    have u1 : Int.tmod n 17982 = q := by rw [tmod_nn h0, HQ.out]
    have u2 : Int.tdiv n 17982 = t := by rw [tdiv_nn h0, HT.out]
    by_cases hq : 1800 ≤ q
    · obtain ⟨d, HD⟩ : ∃ x, Hid ((q - 1800) / 1798 = x) := ⟨_, rfl⟩
      have bd : 0 ≤ d ∧ d ≤ 10 := by rw [← HD.out]; omega
      have u3 : Int.tdiv (q - 1800) 1798 = d := by rw [tdiv_nn (by omega), HD.out]
      have HF := Lib.hid (show fullN n 30 = n + 18 * t + 2 * (d + 1) by unfold fullN; rw [if_pos rfl, HQ.out, HT.out, if_pos hq, HD.out])
      obtain ⟨sc, HSC⟩ : ∃ x, Hid ((n + 18 * t + 2 * (d + 1)) / 30 = x) := ⟨_, rfl⟩
      have bsc : 0 ≤ sc ∧ sc ≤ 100000000 := by rw [← HSC.out]; omega
      obtain ⟨hh, HH⟩ : ∃ x, Hid (sc / 3600 = x) := ⟨_, rfl⟩
      have bhh : 0 ≤ hh ∧ hh ≤ 100000000 := by rw [← HH.out]; omega
      obtain ⟨m0, HM0⟩ : ∃ x, Hid (sc / 60 = x) := ⟨_, rfl⟩
      have bm0 : 0 ≤ m0 ∧ m0 ≤ 100000000 := by rw [← HM0.out]; omega
      obtain ⟨mm, HM⟩ : ∃ x, Hid (m0 % 60 = x) := ⟨_, rfl⟩
      have bmm : 0 ≤ mm ∧ mm ≤ 60 := by rw [← HM.out]; omega
      obtain ⟨ss, HS⟩ : ∃ x, Hid (sc % 60 = x) := ⟨_, rfl⟩
      have bss : 0 ≤ ss ∧ ss ≤ 60 := by rw [← HS.out]; omega
      obtain ⟨ff, HF2⟩ : ∃ x, Hid ((n + 18 * t + 2 * (d + 1)) % 30 = x) := ⟨_, rfl⟩
      have bff : 0 ≤ ff ∧ ff ≤ 60 := by rw [← HF2.out]; omega
      have t1 : Int.tdiv ((n + 18 * t + 2 * (d + 1))) 30 = sc := by rw [tdiv_nn (by omega), HSC.out]
      have t2 : Int.tdiv sc 3600 = hh := by rw [tdiv_nn (by omega), HH.out]
      have t3 : Int.tdiv sc 60 = m0 := by rw [tdiv_nn (by omega), HM0.out]
      have t4 : Int.tmod m0 60 = mm := by rw [tmod_nn (by omega), HM.out]
      have t5 : Int.tmod sc 60 = ss := by rw [tmod_nn (by omega), HS.out]
      have t6 : Int.tmod ((n + 18 * t + 2 * (d + 1))) 30 = ff := by rw [tmod_nn (by omega), HF2.out]
      go_enter Tryd.func47, Tryd.ntmps47
      go_wp2
      have k0 : (w.alloc (.cells #[.int .i64 hh, .int .i64 mm, .int .i64 ss, .int .i64 ff, .int .i64 30] 38)).cell? ⟨w.heap.size, 0, none⟩ = some (.int .i64 hh) := World.cell?_alloc_at _ _ _ _ rfl
      have k1 : (w.alloc (.cells #[.int .i64 hh, .int .i64 mm, .int .i64 ss, .int .i64 ff, .int .i64 30] 38)).cell? ⟨w.heap.size, 1, none⟩ = some (.int .i64 mm) := World.cell?_alloc_at _ _ _ _ rfl
      have k2 : (w.alloc (.cells #[.int .i64 hh, .int .i64 mm, .int .i64 ss, .int .i64 ff, .int .i64 30] 38)).cell? ⟨w.heap.size, 2, none⟩ = some (.int .i64 ss) := World.cell?_alloc_at _ _ _ _ rfl
      have k3 : (w.alloc (.cells #[.int .i64 hh, .int .i64 mm, .int .i64 ss, .int .i64 ff, .int .i64 30] 38)).cell? ⟨w.heap.size, 3, none⟩ = some (.int .i64 ff) := World.cell?_alloc_at _ _ _ _ rfl
      have k4 : (w.alloc (.cells #[.int .i64 hh, .int .i64 mm, .int .i64 ss, .int .i64 ff, .int .i64 30] 38)).cell? ⟨w.heap.size, 4, none⟩ = some (.int .i64 30) := World.cell?_alloc_at _ _ _ _ rfl
      refine bodyPost_ret (v := .agg #[.int .i64 hh, .int .i64 mm, .int .i64 ss, .int .i64 ff, .int .i64 30]) (by simp [results, Tryd.results47, go_sem, k0, k1, k2, k3, k4]) rfl ⟨?_, (G.refl _).alloc _⟩
      simp only [cAt, HF.out, HSC.out, HH.out, HM0.out, HM.out, HS.out, HF2.out]
    · have hq2 : q < 1800 := by omega
      have HF := Lib.hid (show fullN n 30 = n + 18 * t by unfold fullN; rw [if_pos rfl, HQ.out, HT.out, if_neg hq])
      obtain ⟨sc, HSC⟩ : ∃ x, Hid ((n + 18 * t) / 30 = x) := ⟨_, rfl⟩
      have bsc : 0 ≤ sc ∧ sc ≤ 100000000 := by rw [← HSC.out]; omega
      obtain ⟨hh, HH⟩ : ∃ x, Hid (sc / 3600 = x) := ⟨_, rfl⟩
      have bhh : 0 ≤ hh ∧ hh ≤ 100000000 := by rw [← HH.out]; omega
      obtain ⟨m0, HM0⟩ : ∃ x, Hid (sc / 60 = x) := ⟨_, rfl⟩
      have bm0 : 0 ≤ m0 ∧ m0 ≤ 100000000 := by rw [← HM0.out]; omega
      obtain ⟨mm, HM⟩ : ∃ x, Hid (m0 % 60 = x) := ⟨_, rfl⟩
      have bmm : 0 ≤ mm ∧ mm ≤ 60 := by rw [← HM.out]; omega
      obtain ⟨ss, HS⟩ : ∃ x, Hid (sc % 60 = x) := ⟨_, rfl⟩
      have bss : 0 ≤ ss ∧ ss ≤ 60 := by rw [← HS.out]; omega
      obtain ⟨ff, HF2⟩ : ∃ x, Hid ((n + 18 * t) % 30 = x) := ⟨_, rfl⟩
      have bff : 0 ≤ ff ∧ ff ≤ 60 := by rw [← HF2.out]; omega
      have t1 : Int.tdiv ((n + 18 * t)) 30 = sc := by rw [tdiv_nn (by omega), HSC.out]
      have t2 : Int.tdiv sc 3600 = hh := by rw [tdiv_nn (by omega), HH.out]
      have t3 : Int.tdiv sc 60 = m0 := by rw [tdiv_nn (by omega), HM0.out]
      have t4 : Int.tmod m0 60 = mm := by rw [tmod_nn (by omega), HM.out]
      have t5 : Int.tmod sc 60 = ss := by rw [tmod_nn (by omega), HS.out]
      have t6 : Int.tmod ((n + 18 * t)) 30 = ff := by rw [tmod_nn (by omega), HF2.out]
      go_enter Tryd.func47, Tryd.ntmps47
      go_wp2
      have k0 : (w.alloc (.cells #[.int .i64 hh, .int .i64 mm, .int .i64 ss, .int .i64 ff, .int .i64 30] 38)).cell? ⟨w.heap.size, 0, none⟩ = some (.int .i64 hh) := World.cell?_alloc_at _ _ _ _ rfl
      have k1 : (w.alloc (.cells #[.int .i64 hh, .int .i64 mm, .int .i64 ss, .int .i64 ff, .int .i64 30] 38)).cell? ⟨w.heap.size, 1, none⟩ = some (.int .i64 mm) := World.cell?_alloc_at _ _ _ _ rfl
      have k2 : (w.alloc (.cells #[.int .i64 hh, .int .i64 mm, .int .i64 ss, .int .i64 ff, .int .i64 30] 38)).cell? ⟨w.heap.size, 2, none⟩ = some (.int .i64 ss) := World.cell?_alloc_at _ _ _ _ rfl
      have k3 : (w.alloc (.cells #[.int .i64 hh, .int .i64 mm, .int .i64 ss, .int .i64 ff, .int .i64 30] 38)).cell? ⟨w.heap.size, 3, none⟩ = some (.int .i64 ff) := World.cell?_alloc_at _ _ _ _ rfl
      have k4 : (w.alloc (.cells #[.int .i64 hh, .int .i64 mm, .int .i64 ss, .int .i64 ff, .int .i64 30] 38)).cell? ⟨w.heap.size, 4, none⟩ = some (.int .i64 30) := World.cell?_alloc_at _ _ _ _ rfl
      refine bodyPost_ret (v := .agg #[.int .i64 hh, .int .i64 mm, .int .i64 ss, .int .i64 ff, .int .i64 30]) (by simp [results, Tryd.results47, go_sem, k0, k1, k2, k3, k4]) rfl ⟨?_, (G.refl _).alloc _⟩
      simp only [cAt, HF.out, HSC.out, HH.out, HM0.out, HM.out, HS.out, HF2.out]
end Go.Proofs.YtcoaldhmofdfgaaDoor
