/-
  Walks of the smallest functions: bounds, absolute values, nearest quotients.
-/
import Derived.Test.YtnnhffehboknnaaChecked
import Derived.Test.YtnnhffehboknnaaMem
import Derived.WalkKit
import Derived.WalkSpells
import Derived.WalkLawsBesides
import Derived.BigQuiet
import Derived.Deep.QuietTactic
import Derived.Lib.Hide
import Derived.Lib.MinMax
namespace Go.Proofs.Ytnnhffehboknnaa
open Go.RowKit

theorem ret_int {k : IntKind} {a b : Int} (h : a = b) : Ending.returned (.int k a) = .returned (.int k b) := by rw [h]
theorem ret_ii {a b : Int} {x : Int × Int} (h : x = (a, b)) : Ending.returned (.tuple #[.int .i64 a, .int .i64 b]) = .returned (.tuple #[.int .i64 x.1, .int .i64 x.2]) := by rw [h]
theorem ret_bool {a b : Bool} (h : a = b) : Ending.returned (.bool a) = .returned (.bool b) := by rw [h]

set_option maxHeartbeats 400000 in
theorem within_any (n lo hi : Int) (w : World) :
    Calls Try.prog 45 #[.int .i64 n, .int .i64 lo, .int .i64 hi] w fun e w' => e = .returned (.bool (inB n lo hi)) ∧ w = w' := by
  by_cases h1 : lo ≤ n
  · by_cases h2 : n ≤ hi
    · have HD := Lib.hid (inB_mk ⟨h1, h2⟩)
      go_enter Try.func45, Try.ntmps45
      go_wp2
      go_ret
      exact ⟨ret_bool HD.out.symm, rfl⟩
    · have HD := Lib.hid (inB_no (n := n) (lo := lo) (hi := hi) (by omega))
      go_enter Try.func45, Try.ntmps45
      go_wp2
      go_ret
      exact ⟨ret_bool HD.out.symm, rfl⟩
  · have HD := Lib.hid (inB_no (n := n) (lo := lo) (hi := hi) (by omega))
    go_enter Try.func45, Try.ntmps45
    go_wp2
    go_ret
    exact ⟨ret_bool HD.out.symm, rfl⟩

set_option maxHeartbeats 400000 in
theorem l00In_any (n lo hi : Int) (w : World) :
    Calls Try.prog 42 #[.int .i64 n, .int .i64 lo, .int .i64 hi] w fun e w' => e = .returned (.bool (inB n lo hi)) ∧ w = w' := by
  by_cases h1 : lo ≤ n
  · by_cases h2 : n ≤ hi
    · have HD := Lib.hid (inB_mk ⟨h1, h2⟩)
      go_enter Try.func42, Try.ntmps42
      go_wp2
      go_ret
      exact ⟨ret_bool HD.out.symm, rfl⟩
    · have HD := Lib.hid (inB_no (n := n) (lo := lo) (hi := hi) (by omega))
      go_enter Try.func42, Try.ntmps42
      go_wp2
      go_ret
      exact ⟨ret_bool HD.out.symm, rfl⟩
  · have HD := Lib.hid (inB_no (n := n) (lo := lo) (hi := hi) (by omega))
    go_enter Try.func42, Try.ntmps42
    go_wp2
    go_ret
    exact ⟨ret_bool HD.out.symm, rfl⟩

theorem below_drewN {B : Nat} {a w : World} (h : Below B a w) (n : Nat) : Below B a (w.drewN n) := ⟨h.os, h.tape, h.output, h.size, h.block⟩
theorem quiet_left {P : Program} {f : FuncId} {args : Array Value} {w : World} {n : Nat} {v : Value}
    (h : Calls P f args (w.drewN n) fun e w' => e = .returned v ∧ w.drewN n = w') : Calls P f args (w.drewN n) fun e w'' => e = .returned v ∧ ∃ m, w'' = w.drewN m :=
  h.mono fun _ _ ⟨he, hm⟩ => ⟨he, n, hm.symm⟩
theorem quiet_add_left {P : Program} {f : FuncId} {args : Array Value} {w : World} {a n : Nat} {v : Value}
    (h : Calls P f args (w.drewN (a + n)) fun e w' => e = .returned v ∧ w.drewN (a + n) = w') :
    Calls P f args (w.drewN (a + n)) fun e w'' => e = .returned v ∧ ∃ m, w'' = w.drewN (a + m) :=
  h.mono fun _ _ ⟨he, hm⟩ => ⟨he, n, hm.symm⟩
theorem quiet_add {P : Program} {f : FuncId} {args : Array Value} {w : World} {a n : Nat} {v : Value}
    (h : Calls P f args (w.drewN (a + n)) fun e w' => e = .returned v ∧ ∃ m, w' = (w.drewN (a + n)).drewN m) :
    Calls P f args (w.drewN (a + n)) fun e w'' => e = .returned v ∧ ∃ m, w'' = w.drewN (a + m) :=
  h.mono fun _ _ ⟨he, m, hm⟩ => ⟨he, n + m, by rw [hm, World.drewN_drewN, Nat.add_assoc]⟩

set_option maxHeartbeats 400000 in
theorem absOf_pos (n : Int) (h : 0 ≤ n) (w : World) :
    Calls Try.prog 63 #[.int .i64 n] w fun e w' => e = .returned (.int .i64 n) ∧ w = w' := by
  go_enter Try.func63, Try.ntmps63
  go_wp2
  go_ret
  exact ⟨rfl, rfl⟩
set_option maxHeartbeats 400000 in
theorem absOf_neg (n : Int) (h : n ≤ 0) (hn : -9223372036854775807 ≤ n) (w : World) :
    Calls Try.prog 63 #[.int .i64 n] w fun e w' => e = .returned (.int .i64 (-n)) ∧ w = w' := by
  by_cases hz : n < 0
  · go_enter Try.func63, Try.ntmps63
    go_wp2
    go_ret
    exact ⟨rfl, rfl⟩
  · have h0 : n = 0 := by omega
    subst h0
    go_enter Try.func63, Try.ntmps63
    go_wp2
    go_ret
    exact ⟨rfl, rfl⟩

set_option maxHeartbeats 400000 in
theorem l01Div_any (a b : Int) (hb0 : 0 < b) (hb1 : b ≤ 1000000000000) (ha0 : -4000000000000000000 ≤ a) (ha1 : a ≤ 4000000000000000000) (w : World) :
    Calls Try.prog 43 #[.int .i64 a, .int .i64 b] w fun e w' => e = .returned (.int .i64 (near a b)) ∧ w = w' := by
  have hn := near_bd hb0 ⟨ha0, ha1⟩
  by_cases h : a < 0
  · have HD := Lib.hid (near_neg (b := b) h)
    rw [near_neg h] at hn
    go_enter Try.func43, Try.ntmps43
    go_wp2
    go_ret
    exact ⟨ret_int (by rw [HD.out]), rfl⟩
  · have HD := Lib.hid (near_pos (a := a) (b := b) (by omega))
    go_enter Try.func43, Try.ntmps43
    go_wp2
    go_ret
    exact ⟨ret_int (by rw [HD.out]), rfl⟩

set_option maxHeartbeats 1000000 in
theorem nearest_any (a b : Int) (hb0 : 0 < b) (hb1 : b ≤ 1000000000000) (ha0 : -4000000000000000000 ≤ a) (ha1 : a ≤ 4000000000000000000) (w : World) :
    Calls Try.prog 46 #[.int .i64 a, .int .i64 b] w fun e w' => e = .returned (.int .i64 (near a b)) ∧ ∃ n, w' = w.drewN n := by
  have hb2 : b ≠ 0 := by omega
  have hb3 : ¬ b < 0 := by omega
  by_cases h : a < 0
  · have hm := near_mirror (b := b) h
    have r0 := Int.emod_nonneg (-a) (show b ≠ 0 by omega)
    have r1 := Int.emod_lt_of_pos (-a) hb0
    have q0 : 0 ≤ (-a) / b := Int.ediv_nonneg (by omega) (by omega)
    have q1 : (-a) / b ≤ -a := Int.ediv_le_self b (by omega)
    have et : IntKind.i64.wrap (a.tdiv b) = -((-a) / b) := by
      have : a.tdiv b = -((-a) / b) := by rw [← Int.tdiv_eq_ediv_of_nonneg (by omega), Int.neg_tdiv, Int.neg_neg]
      rw [this, IntWalk.i64_in _ (by omega)]
    have em : a.tmod b = -((-a) % b) := by rw [← Int.tmod_eq_emod_of_nonneg (by omega), Int.neg_tmod, Int.neg_neg]
    by_cases ht : (-a) % b < b - (-a) % b
    · have HD := Lib.hid (show near a b = -((-a) / b) by rw [hm, near_low (by omega) hb0 ht])
      clear hm
      go_enter Try.func46, Try.ntmps46
      go_wp2
      go_quiet ((go_at_call 63; exact quiet_left (absOf_neg _ (by omega) (by omega) _)))
      clear et em
      go_wp2_with (go_at_call 63; refine (absOf_pos _ (by omega) _).mono ?_; rintro e w' ⟨rfl, rfl⟩)
      go_ret
      exact ⟨ret_int HD.out.symm, _, rfl⟩
    · have HD := Lib.hid (show near a b = -((-a) / b) - 1 by rw [hm, near_high (by omega) hb0 ht]; omega)
      clear hm
      go_enter Try.func46, Try.ntmps46
      go_wp2
      go_quiet ((go_at_call 63; exact quiet_left (absOf_neg _ (by omega) (by omega) _)))
      clear et em
      go_wp2_with (go_at_call 63; refine (absOf_pos _ (by omega) _).mono ?_; rintro e w' ⟨rfl, rfl⟩)
      go_ret
      exact ⟨ret_int HD.out.symm, _, rfl⟩
  · have r0 := Int.emod_nonneg a (show b ≠ 0 by omega)
    have r1 := Int.emod_lt_of_pos a hb0
    have q0 : 0 ≤ a / b := Int.ediv_nonneg (by omega) (by omega)
    have q1 : a / b ≤ a := Int.ediv_le_self b (by omega)
    have et : IntKind.i64.wrap (a.tdiv b) = a / b := IntWalk.i64_quo _ _ (by omega)
    have em : a.tmod b = a % b := Int.tmod_eq_emod_of_nonneg (by omega)
    have h' : 0 ≤ a := by omega
    have hs : (decide (a < 0) == decide (b < 0)) = true := by rw [decide_eq_false h, decide_eq_false hb3]; rfl
    by_cases ht : a % b < b - a % b
    · have HD := Lib.hid (near_low (by omega) hb0 ht)
      go_enter Try.func46, Try.ntmps46
      go_wp2
      go_quiet ((go_at_call 63; exact quiet_left (absOf_pos _ (by omega) _)))
      clear et em
      go_wp2_with (go_at_call 63; refine (absOf_pos _ (by omega) _).mono ?_; rintro e w' ⟨rfl, rfl⟩)
      go_ret
      exact ⟨ret_int HD.out.symm, _, rfl⟩
    · have HD := Lib.hid (near_high (by omega) hb0 ht)
      go_enter Try.func46, Try.ntmps46
      go_wp2
      go_quiet ((go_at_call 63; exact quiet_left (absOf_pos _ (by omega) _)))
      clear et em
      go_wp2_with (go_at_call 63; refine (absOf_pos _ (by omega) _).mono ?_; rintro e w' ⟨rfl, rfl⟩)
      go_ret
      exact ⟨ret_int HD.out.symm, _, rfl⟩

set_option maxHeartbeats 400000 in
theorem absOf_any (n : Int) (hn : -9223372036854775807 ≤ n) (w : World) :
    Calls Try.prog 63 #[.int .i64 n] w fun e w' => e = .returned (.int .i64 (absI n)) ∧ w = w' := by
  by_cases hz : n < 0
  · have H := Lib.hid (absI_neg hz)
    exact (absOf_neg n (by omega) hn w).mono fun e w' h => ⟨by rw [H.out]; exact h.1, h.2⟩
  · have H := Lib.hid (absI_pos (n := n) (by omega))
    exact (absOf_pos n (by omega) w).mono fun e w' h => ⟨by rw [H.out]; exact h.1, h.2⟩
end Go.Proofs.Ytnnhffehboknnaa
