/-
  Walks: frames and time codes, the outer functions.
-/
import Derived.Test.YtcoaldhmofdfgaaDoorTc
namespace Go.Proofs.YtcoaldhmofdfgaaDoor
open Go.RowKit

def tcZ : SCode := ⟨0, 0, 0, 0, 0⟩
def tcR (f r : Int) : SCode × Int := if rateB r = true ∧ inB f 0 (dayN r - 1) = true then (cAt f r, 0) else (tcZ, 2)
def mlR (f r : Int) : Int × Int := if rateB r = true ∧ inB f 0 8640000 = true then (msN f r, 0) else (0, 2)
def faR (m r : Int) : Int × Int := if rateB r = true ∧ inB m 0 86400000 = true then (fAt m r, 0) else (0, 2)

set_option maxRecDepth 20000 in
set_option maxHeartbeats 4000000 in
theorem CodeAt_any (n r : Int) (w : World) :
    Calls Tryd.prog 18 #[.int .i64 n, .int .i64 r] w fun e w' => e = .returned (.tuple #[.agg #[.int .i64 (tcR n r).1.Hours, .int .i64 (tcR n r).1.Minutes, .int .i64 (tcR n r).1.Seconds, .int .i64 (tcR n r).1.Frames, .int .i64 (tcR n r).1.Rate], .int .i64 (tcR n r).2]) ∧ G w w' := by
  have OQ1 := Lib.hid (own_new (w := w) (base := w.heap.size) (n := 1) (cap := 1) (size := 5) (e := 38) (cur := #[.int .i64 0, .int .i64 0, .int .i64 0, .int .i64 0, .int .i64 0]) (Nat.le_refl _) (by decide) (by decide) rfl)
  have GA := Lib.hid ((G.refl w).alloc (.cells #[.int .i64 0, .int .i64 0, .int .i64 0, .int .i64 0, .int .i64 0] 38))
  have K1 := Lib.hid (fun (W : World) => isFrameRate_any r W)
  cases hr : rateB r
  · have H := Lib.hid (show tcR n r = (tcZ, 2) by unfold tcR; rw [if_neg (by rw [hr]; simp)])
    rw [hr] at K1
    obtain ⟨R, HR⟩ : ∃ R, Hid (tcR n r = R) := ⟨_, rfl⟩
    rw [HR.out] at H ⊢
    clear hr
    go_enter Tryd.func18, Tryd.ntmps18
    go_wp2_with (go_at_call 44; (with_reducible refine (K1.out _).mono ?_); rintro e w1 ⟨rfl, rfl⟩)
    have k0 : (w.alloc (.cells #[.int .i64 0, .int .i64 0, .int .i64 0, .int .i64 0, .int .i64 0] 38)).cell? ⟨w.heap.size, 0, none⟩ = some (.int .i64 0) := World.cell?_alloc_at _ _ _ _ rfl
    have k1 : (w.alloc (.cells #[.int .i64 0, .int .i64 0, .int .i64 0, .int .i64 0, .int .i64 0] 38)).cell? ⟨w.heap.size, 1, none⟩ = some (.int .i64 0) := World.cell?_alloc_at _ _ _ _ rfl
    have k2 : (w.alloc (.cells #[.int .i64 0, .int .i64 0, .int .i64 0, .int .i64 0, .int .i64 0] 38)).cell? ⟨w.heap.size, 2, none⟩ = some (.int .i64 0) := World.cell?_alloc_at _ _ _ _ rfl
    have k3 : (w.alloc (.cells #[.int .i64 0, .int .i64 0, .int .i64 0, .int .i64 0, .int .i64 0] 38)).cell? ⟨w.heap.size, 3, none⟩ = some (.int .i64 0) := World.cell?_alloc_at _ _ _ _ rfl
    have k4 : (w.alloc (.cells #[.int .i64 0, .int .i64 0, .int .i64 0, .int .i64 0, .int .i64 0] 38)).cell? ⟨w.heap.size, 4, none⟩ = some (.int .i64 0) := World.cell?_alloc_at _ _ _ _ rfl
    exact bodyPost_ret (v := .tuple #[.agg #[.int .i64 0, .int .i64 0, .int .i64 0, .int .i64 0, .int .i64 0], .int .i64 2]) (by simp [results, Tryd.results18, go_sem, k0, k1, k2, k3, k4]) rfl ⟨by rw [H.out] <;> rfl, GA.out⟩
  have hr3 := rateB_iff.1 hr
  have K2 := Lib.hid (fun (W : World) => framesOfDay_any r hr3 W)
  have hdb : 0 ≤ dayN r ∧ dayN r ≤ 2592000 := by
    unfold dayN
    rcases hr3 with rfl | rfl | rfl
    · rw [if_neg (by decide)]; omega
    · rw [if_neg (by decide)]; omega
    · rw [if_pos rfl]; omega
  obtain ⟨D, HD⟩ : ∃ D, Hid (dayN r = D) := ⟨_, rfl⟩
  have HT := Lib.hid (show tcR n r = if rateB r = true ∧ inB n 0 (dayN r - 1) = true then (cAt n r, 0) else (tcZ, 2) from rfl)
  rw [HD.out] at K2 hdb HT
  have K3 := Lib.hid (fun (W : World) => within_any n 0 (D - 1) W)
  rw [hr] at K1
  obtain ⟨R, HR⟩ : ∃ R, Hid (tcR n r = R) := ⟨_, rfl⟩
  rw [HR.out] at HT ⊢
  cases hn : inB n 0 (D - 1)
  · have H := Lib.hid (show R = (tcZ, 2) by rw [HT.out, if_neg (by rw [hn]; simp)])
    rw [hn] at K3
    clear hr hn hr3
    go_enter Tryd.func18, Tryd.ntmps18
    go_wp2_with (first | (go_at_call 44; (with_reducible refine (K1.out _).mono ?_); rintro e w1 ⟨rfl, rfl⟩) | (go_at_call 46; (with_reducible refine (K2.out _).mono ?_); rintro e w1 ⟨rfl, rfl⟩) | (go_at_call 45; (with_reducible refine (K3.out _).mono ?_); rintro e w1 ⟨rfl, rfl⟩))
    have k0 : (w.alloc (.cells #[.int .i64 0, .int .i64 0, .int .i64 0, .int .i64 0, .int .i64 0] 38)).cell? ⟨w.heap.size, 0, none⟩ = some (.int .i64 0) := World.cell?_alloc_at _ _ _ _ rfl
    have k1 : (w.alloc (.cells #[.int .i64 0, .int .i64 0, .int .i64 0, .int .i64 0, .int .i64 0] 38)).cell? ⟨w.heap.size, 1, none⟩ = some (.int .i64 0) := World.cell?_alloc_at _ _ _ _ rfl
    have k2 : (w.alloc (.cells #[.int .i64 0, .int .i64 0, .int .i64 0, .int .i64 0, .int .i64 0] 38)).cell? ⟨w.heap.size, 2, none⟩ = some (.int .i64 0) := World.cell?_alloc_at _ _ _ _ rfl
    have k3 : (w.alloc (.cells #[.int .i64 0, .int .i64 0, .int .i64 0, .int .i64 0, .int .i64 0] 38)).cell? ⟨w.heap.size, 3, none⟩ = some (.int .i64 0) := World.cell?_alloc_at _ _ _ _ rfl
    have k4 : (w.alloc (.cells #[.int .i64 0, .int .i64 0, .int .i64 0, .int .i64 0, .int .i64 0] 38)).cell? ⟨w.heap.size, 4, none⟩ = some (.int .i64 0) := World.cell?_alloc_at _ _ _ _ rfl
    exact bodyPost_ret (v := .tuple #[.agg #[.int .i64 0, .int .i64 0, .int .i64 0, .int .i64 0, .int .i64 0], .int .i64 2]) (by simp [results, Tryd.results18, go_sem, k0, k1, k2, k3, k4]) rfl ⟨by rw [H.out] <;> rfl, GA.out⟩
  · have hnb := inB_iff.1 hn
    have H := Lib.hid (show R = (cAt n r, 0) by rw [HT.out, if_pos ⟨hr, hn⟩])
    rw [hn] at K3
    have K4 := Lib.hid (fun (W : World) => codeAt_any n r hr3 (by omega) (by omega) W)
    have HRT := Lib.hid (show (cAt n r).Rate = r from rfl)
    obtain ⟨C, HC⟩ : ∃ C, Hid (cAt n r = C) := ⟨_, rfl⟩
    rw [HC.out] at H K4 HRT
    obtain ⟨c1, c2, c3, c4, c5⟩ := C
    simp only at K4
    clear hr hn hr3
    have OQ0 := OQ1
    clear OQ1
    go_enter Tryd.func18, Tryd.ntmps18
    go_wp2_with (first | (go_at_call 44; (with_reducible refine (K1.out _).mono ?_); rintro e w1 ⟨rfl, rfl⟩) | (go_at_call 46; (with_reducible refine (K2.out _).mono ?_); rintro e w1 ⟨rfl, rfl⟩) | (go_at_call 45; (with_reducible refine (K3.out _).mono ?_); rintro e w1 ⟨rfl, rfl⟩) | (go_at_call 47; (with_reducible refine (K4.out _).mono ?_); rintro e w1 ⟨rfl, g1⟩; have G1 := Lib.hid (GA.out.trans g1); have OQ1 := Lib.hid (own_G OQ0.out g1); clear g1; have hcq0 := own_cellAt_mid OQ1.out (j := 0) rfl; have hyq0 := own_frozen_of OQ1.out 0; have hcq1 := own_cellAt_mid OQ1.out (j := 1) rfl; have hyq1 := own_frozen_of OQ1.out 1; have hcq2 := own_cellAt_mid OQ1.out (j := 2) rfl; have hyq2 := own_frozen_of OQ1.out 2; have hcq3 := own_cellAt_mid OQ1.out (j := 3) rfl; have hyq3 := own_frozen_of OQ1.out 3; have hcq4 := own_cellAt_mid OQ1.out (j := 4) rfl; have hyq4 := own_frozen_of OQ1.out 4))
    clear hcq0 hyq0 hcq1 hyq1 hcq2 hyq2 hcq3 hyq3 hcq4 hyq4
    have S0 := Lib.hid (OQ1.out.stored 0 (.int .i64 c1))
    have S1 := Lib.hid (S0.out.1.stored 1 (.int .i64 c2))
    have S2 := Lib.hid (S1.out.1.stored 2 (.int .i64 c3))
    have S3 := Lib.hid (S2.out.1.stored 3 (.int .i64 c4))
    have S4 := Lib.hid (S3.out.1.stored 4 (.int .i64 r))
    have k0 := own_cellAt_mid S4.out.1 (j := 0) rfl
    have k1 := own_cellAt_mid S4.out.1 (j := 1) rfl
    have k2 := own_cellAt_mid S4.out.1 (j := 2) rfl
    have k3 := own_cellAt_mid S4.out.1 (j := 3) rfl
    have k4 := own_cellAt_mid S4.out.1 (j := 4) rfl
    exact bodyPost_ret (v := .tuple #[.agg #[.int .i64 c1, .int .i64 c2, .int .i64 c3, .int .i64 c4, .int .i64 r], .int .i64 0]) (by simp [results, Tryd.results18, go_sem, k0, k1, k2, k3, k4]) rfl ⟨by rw [H.out]; rw [← HRT.out], Gx.G G1.out (Gx.trans (Gx.trans (Gx.trans (Gx.trans S0.out.2 S1.out.2) S2.out.2) S3.out.2) S4.out.2) (by intro i hi; cases hi; exact Nat.le_refl _)⟩

set_option maxHeartbeats 1000000 in
theorem milliAt_any (n r : Int) (hr : r = 24 ∨ r = 25 ∨ r = 30) (h0 : 0 ≤ n) (h1 : n ≤ 100000000) (w : World) :
    Calls Tryd.prog 55 #[.int .i64 n, .int .i64 r] w fun e w' => e = .returned (.int .i64 (msN n r)) ∧ w = w' := by
  obtain ⟨N, HN⟩ : ∃ N, Hid (msN n r = N) := ⟨_, rfl⟩
  rw [HN.out]
  unfold msN at HN
  rcases hr with rfl | rfl | rfl
  · rw [if_neg (by decide)] at HN
    have t1 : Int.tdiv (n * 1000) 24 = N := by rw [tdiv_nn (by omega), HN.out]
    have hb : 0 ≤ N ∧ N ≤ 10000000000 := by rw [← HN.out]; omega
    go_enter Tryd.func55, Tryd.ntmps55
    go_wp2
    go_ret
    exact ⟨rfl, rfl⟩
  · rw [if_neg (by decide)] at HN
    have t1 : Int.tdiv (n * 1000) 25 = N := by rw [tdiv_nn (by omega), HN.out]
    have hb : 0 ≤ N ∧ N ≤ 10000000000 := by rw [← HN.out]; omega
    go_enter Tryd.func55, Tryd.ntmps55
    go_wp2
    go_ret
    exact ⟨rfl, rfl⟩
  · rw [if_pos rfl] at HN
    have t1 : Int.tdiv (n * 1001) 30 = N := by rw [tdiv_nn (by omega), HN.out]
    have hb : 0 ≤ N ∧ N ≤ 10000000000 := by rw [← HN.out]; omega
    go_enter Tryd.func55, Tryd.ntmps55
    go_wp2
    go_ret
    exact ⟨rfl, rfl⟩
set_option maxHeartbeats 1000000 in
theorem frameAt_any (n r : Int) (hr : r = 24 ∨ r = 25 ∨ r = 30) (h0 : 0 ≤ n) (h1 : n ≤ 100000000) (w : World) :
    Calls Tryd.prog 54 #[.int .i64 n, .int .i64 r] w fun e w' => e = .returned (.int .i64 (fAt n r)) ∧ w = w' := by
  obtain ⟨N, HN⟩ : ∃ N, Hid (fAt n r = N) := ⟨_, rfl⟩
  rw [HN.out]
  unfold fAt at HN
  rcases hr with rfl | rfl | rfl
  · rw [if_neg (by decide)] at HN
    have t1 : Int.tdiv ((n + 1) * 24 - 1) 1000 = N := by rw [tdiv_nn (by omega), HN.out]
    have hb : 0 ≤ N ∧ N ≤ 10000000000 := by rw [← HN.out]; omega
    go_enter Tryd.func54, Tryd.ntmps54
    go_wp2
    go_ret
    exact ⟨rfl, rfl⟩
  · rw [if_neg (by decide)] at HN
    have t1 : Int.tdiv ((n + 1) * 25 - 1) 1000 = N := by rw [tdiv_nn (by omega), HN.out]
    have hb : 0 ≤ N ∧ N ≤ 10000000000 := by rw [← HN.out]; omega
    go_enter Tryd.func54, Tryd.ntmps54
    go_wp2
    go_ret
    exact ⟨rfl, rfl⟩
  · rw [if_pos rfl] at HN
    have t1 : Int.tdiv ((n + 1) * 30 - 1) 1001 = N := by rw [tdiv_nn (by omega), HN.out]
    have hb : 0 ≤ N ∧ N ≤ 10000000000 := by rw [← HN.out]; omega
    go_enter Tryd.func54, Tryd.ntmps54
    go_wp2
    go_ret
    exact ⟨rfl, rfl⟩

set_option maxHeartbeats 1000000 in
theorem MilliOf_any (n r : Int) (w : World) :
    Calls Tryd.prog 25 #[.int .i64 n, .int .i64 r] w fun e w' => e = .returned (.tuple #[.int .i64 (mlR n r).1, .int .i64 (mlR n r).2]) ∧ G w w' := by
  have K1 := Lib.hid (fun (W : World) => isFrameRate_any r W)
  have K3 := Lib.hid (fun (W : World) => within_any n 0 8640000 W)
  have HT := Lib.hid (show mlR n r = if rateB r = true ∧ inB n 0 8640000 = true then (msN n r, 0) else (0, 2) from rfl)
  obtain ⟨R, HR⟩ : ∃ R, Hid (mlR n r = R) := ⟨_, rfl⟩
  rw [HR.out] at HT ⊢
  cases hr : rateB r
  · have H := Lib.hid (show R = (0, 2) by rw [HT.out, if_neg (by rw [hr]; simp)])
    rw [hr] at K1
    clear hr
    go_enter Tryd.func25, Tryd.ntmps25
    go_wp2_with (go_at_call 44; (with_reducible refine (K1.out _).mono ?_); rintro e w1 ⟨rfl, rfl⟩)
    go_ret2
    exact ⟨by rw [H.out] <;> rfl, G.refl _⟩
  cases hn : inB n 0 8640000
  · have H := Lib.hid (show R = (0, 2) by rw [HT.out, if_neg (by rw [hn]; simp)])
    rw [hr] at K1
    rw [hn] at K3
    clear hr hn
    go_enter Tryd.func25, Tryd.ntmps25
    go_wp2_with (first | (go_at_call 44; (with_reducible refine (K1.out _).mono ?_); rintro e w1 ⟨rfl, rfl⟩) | (go_at_call 45; (with_reducible refine (K3.out _).mono ?_); rintro e w1 ⟨rfl, rfl⟩))
    go_ret2
    exact ⟨by rw [H.out] <;> rfl, G.refl _⟩
  · have hnb := inB_iff.1 hn
    have H := Lib.hid (show R = (msN n r, 0) by rw [HT.out, if_pos ⟨hr, hn⟩])
    have K4 := Lib.hid (fun (W : World) => milliAt_any n r (rateB_iff.1 hr) (by omega) (by omega) W)
    obtain ⟨x, HX⟩ : ∃ x, Hid (msN n r = x) := ⟨_, rfl⟩
    rw [HX.out] at K4 H
    rw [hr] at K1
    rw [hn] at K3
    clear hr hn
    go_enter Tryd.func25, Tryd.ntmps25
    go_wp2_with (first | (go_at_call 44; (with_reducible refine (K1.out _).mono ?_); rintro e w1 ⟨rfl, rfl⟩) | (go_at_call 45; (with_reducible refine (K3.out _).mono ?_); rintro e w1 ⟨rfl, rfl⟩) | (go_at_call 55; (with_reducible refine (K4.out _).mono ?_); rintro e w1 ⟨rfl, rfl⟩))
    go_ret2
    exact ⟨by rw [H.out] <;> rfl, G.refl _⟩

set_option maxHeartbeats 1000000 in
theorem FrameAt_any (n r : Int) (w : World) :
    Calls Tryd.prog 24 #[.int .i64 n, .int .i64 r] w fun e w' => e = .returned (.tuple #[.int .i64 (faR n r).1, .int .i64 (faR n r).2]) ∧ G w w' := by
  have K1 := Lib.hid (fun (W : World) => isFrameRate_any r W)
  have K3 := Lib.hid (fun (W : World) => within_any n 0 86400000 W)
  have HT := Lib.hid (show faR n r = if rateB r = true ∧ inB n 0 86400000 = true then (fAt n r, 0) else (0, 2) from rfl)
  obtain ⟨R, HR⟩ : ∃ R, Hid (faR n r = R) := ⟨_, rfl⟩
  rw [HR.out] at HT ⊢
  cases hr : rateB r
  · have H := Lib.hid (show R = (0, 2) by rw [HT.out, if_neg (by rw [hr]; simp)])
    rw [hr] at K1
    clear hr
    go_enter Tryd.func24, Tryd.ntmps24
    go_wp2_with (go_at_call 44; (with_reducible refine (K1.out _).mono ?_); rintro e w1 ⟨rfl, rfl⟩)
    go_ret2
    exact ⟨by rw [H.out] <;> rfl, G.refl _⟩
  cases hn : inB n 0 86400000
  · have H := Lib.hid (show R = (0, 2) by rw [HT.out, if_neg (by rw [hn]; simp)])
    rw [hr] at K1
    rw [hn] at K3
    clear hr hn
    go_enter Tryd.func24, Tryd.ntmps24
    go_wp2_with (first | (go_at_call 44; (with_reducible refine (K1.out _).mono ?_); rintro e w1 ⟨rfl, rfl⟩) | (go_at_call 45; (with_reducible refine (K3.out _).mono ?_); rintro e w1 ⟨rfl, rfl⟩))
    go_ret2
    exact ⟨by rw [H.out] <;> rfl, G.refl _⟩
  · have hnb := inB_iff.1 hn
    have H := Lib.hid (show R = (fAt n r, 0) by rw [HT.out, if_pos ⟨hr, hn⟩])
    have K4 := Lib.hid (fun (W : World) => frameAt_any n r (rateB_iff.1 hr) (by omega) (by omega) W)
    obtain ⟨x, HX⟩ : ∃ x, Hid (fAt n r = x) := ⟨_, rfl⟩
    rw [HX.out] at K4 H
    rw [hr] at K1
    rw [hn] at K3
    clear hr hn
    go_enter Tryd.func24, Tryd.ntmps24
    go_wp2_with (first | (go_at_call 44; (with_reducible refine (K1.out _).mono ?_); rintro e w1 ⟨rfl, rfl⟩) | (go_at_call 45; (with_reducible refine (K3.out _).mono ?_); rintro e w1 ⟨rfl, rfl⟩) | (go_at_call 54; (with_reducible refine (K4.out _).mono ?_); rintro e w1 ⟨rfl, rfl⟩))
    go_ret2
    exact ⟨by rw [H.out] <;> rfl, G.refl _⟩
end Go.Proofs.YtcoaldhmofdfgaaDoor
