/-
  Walks: absolute values and nearest quotients, by both texts.
-/
import Derived.Test.YtmcddcdhppomkaaDoorBase
namespace Go.Proofs.YtmcddcdhppomkaaDoor
open Go.RowKit

set_option maxHeartbeats 400000 in
theorem absOf_pos (n : Int) (h : 0 ≤ n) (w : World) :
    Calls Tryd.prog 41 #[.int .i64 n] w fun e w' => e = .returned (.int .i64 n) ∧ w = w' := by
  go_enter Tryd.func41, Tryd.ntmps41
  go_wp2
  go_ret
  exact ⟨rfl, rfl⟩
set_option maxHeartbeats 400000 in
theorem absOf_neg (n : Int) (h : n ≤ 0) (hn : -9223372036854775807 ≤ n) (w : World) :
    Calls Tryd.prog 41 #[.int .i64 n] w fun e w' => e = .returned (.int .i64 (-n)) ∧ w = w' := by
  by_cases hz : n < 0
  · go_enter Tryd.func41, Tryd.ntmps41
    go_wp2
    go_ret
    exact ⟨rfl, rfl⟩
  · have h0 : n = 0 := by omega
    subst h0
    go_enter Tryd.func41, Tryd.ntmps41
    go_wp2
    go_ret
    exact ⟨rfl, rfl⟩

set_option maxHeartbeats 400000 in
theorem l01Div_any (a b : Int) (hb0 : 0 < b) (hb1 : b ≤ 1000000000000) (ha0 : -4000000000000000000 ≤ a) (ha1 : a ≤ 4000000000000000000) (w : World) :
    Calls Tryd.prog 31 #[.int .i64 a, .int .i64 b] w fun e w' => e = .returned (.int .i64 (near a b)) ∧ w = w' := by
  have hn := near_bd hb0 ⟨ha0, ha1⟩
  by_cases h : a < 0
  · have HD := Lib.hid (near_neg (b := b) h)
    rw [near_neg h] at hn
    go_enter Tryd.func31, Tryd.ntmps31
    go_wp2
    go_ret
    exact ⟨ret_int (by rw [HD.out]), rfl⟩
  · have HD := Lib.hid (near_pos (a := a) (b := b) (by omega))
    go_enter Tryd.func31, Tryd.ntmps31
    go_wp2
    go_ret
    exact ⟨ret_int (by rw [HD.out]), rfl⟩

set_option maxHeartbeats 1000000 in
theorem nearest_any (a b : Int) (hb0 : 0 < b) (hb1 : b ≤ 1000000000000) (ha0 : -4000000000000000000 ≤ a) (ha1 : a ≤ 4000000000000000000) (w : World) :
    Calls Tryd.prog 25 #[.int .i64 a, .int .i64 b] w fun e w' => e = .returned (.int .i64 (near a b)) ∧ ∃ n, w' = w.drewN n := by
  have hb2 : b ≠ 0 := by omega
  have hb3 : ¬ b < 0 := by omega
  by_cases h : a < 0
  · have hm := near_mirror (b := b) h
    have r0 := Int.emod_nonneg (-a) (show b ≠ 0 by omega)
    have r1 := Int.emod_lt_of_pos (-a) hb0
    have q0 : 0 ≤ (-a) / b := Int.ediv_nonneg (by omega) (by omega)
    have q1 : (-a) / b ≤ -a := Int.ediv_le_self b (by omega)
    have et : IntKind.i64.wrap (a.tdiv b) = -((-a) / b) := by
      have : a.tdiv b = -((-a) / b) := by rw [← Int.tdiv_eq_ediv_of_nonneg (by omega), Int.neg_tdiv, Int.neg_neg]
      rw [this, IntWalk.i64_in _ (by omega)]
    have em : a.tmod b = -((-a) % b) := by rw [← Int.tmod_eq_emod_of_nonneg (by omega), Int.neg_tmod, Int.neg_neg]
    by_cases ht : (-a) % b < b - (-a) % b
    · have HD := Lib.hid (show near a b = -((-a) / b) by rw [hm, near_low (by omega) hb0 ht])
      clear hm
      go_enter Tryd.func25, Tryd.ntmps25
      go_wp2
      go_quiet ((go_at_call 41; exact quiet_left (absOf_neg _ (by omega) (by omega) _)))
      clear et em
      go_wp2_with (go_at_call 41; refine (absOf_pos _ (by omega) _).mono ?_; rintro e w' ⟨rfl, rfl⟩)
      go_ret
      exact ⟨ret_int HD.out.symm, _, rfl⟩
    · have HD := Lib.hid (show near a b = -((-a) / b) - 1 by rw [hm, near_high (by omega) hb0 ht]; omega)
      clear hm
      go_enter Tryd.func25, Tryd.ntmps25
      go_wp2
      go_quiet ((go_at_call 41; exact quiet_left (absOf_neg _ (by omega) (by omega) _)))
      clear et em
      go_wp2_with (go_at_call 41; refine (absOf_pos _ (by omega) _).mono ?_; rintro e w' ⟨rfl, rfl⟩)
      go_ret
      exact ⟨ret_int HD.out.symm, _, rfl⟩
  · have r0 := Int.emod_nonneg a (show b ≠ 0 by omega)
    have r1 := Int.emod_lt_of_pos a hb0
    have q0 : 0 ≤ a / b := Int.ediv_nonneg (by omega) (by omega)
    have q1 : a / b ≤ a := Int.ediv_le_self b (by omega)
    have et : IntKind.i64.wrap (a.tdiv b) = a / b := IntWalk.i64_quo _ _ (by omega)
    have em : a.tmod b = a % b := Int.tmod_eq_emod_of_nonneg (by omega)
    have h' : 0 ≤ a := by omega
    have hs : (decide (a < 0) == decide (b < 0)) = true := by rw [decide_eq_false h, decide_eq_false hb3]; rfl
    by_cases ht : a % b < b - a % b
    · have HD := Lib.hid (near_low (by omega) hb0 ht)
      go_enter Tryd.func25, Tryd.ntmps25
      go_wp2
      go_quiet ((go_at_call 41; exact quiet_left (absOf_pos _ (by omega) _)))
      clear et em
      go_wp2_with (go_at_call 41; refine (absOf_pos _ (by omega) _).mono ?_; rintro e w' ⟨rfl, rfl⟩)
      go_ret
      exact ⟨ret_int HD.out.symm, _, rfl⟩
    · have HD := Lib.hid (near_high (by omega) hb0 ht)
      go_enter Tryd.func25, Tryd.ntmps25
      go_wp2
      go_quiet ((go_at_call 41; exact quiet_left (absOf_pos _ (by omega) _)))
      clear et em
      go_wp2_with (go_at_call 41; refine (absOf_pos _ (by omega) _).mono ?_; rintro e w' ⟨rfl, rfl⟩)
      go_ret
      exact ⟨ret_int HD.out.symm, _, rfl⟩

set_option maxHeartbeats 400000 in
theorem absOf_any (n : Int) (hn : -9223372036854775807 ≤ n) (w : World) :
    Calls Tryd.prog 41 #[.int .i64 n] w fun e w' => e = .returned (.int .i64 (absI n)) ∧ w = w' := by
  by_cases hz : n < 0
  · have H := Lib.hid (absI_neg hz)
    exact (absOf_neg n (by omega) hn w).mono fun e w' h => ⟨by rw [H.out]; exact h.1, h.2⟩
  · have H := Lib.hid (absI_pos (n := n) (by omega))
    exact (absOf_pos n (by omega) w).mono fun e w' h => ⟨by rw [H.out]; exact h.1, h.2⟩
end Go.Proofs.YtmcddcdhppomkaaDoor
