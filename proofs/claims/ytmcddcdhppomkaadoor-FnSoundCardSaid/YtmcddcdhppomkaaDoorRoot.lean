/-
  Walks: the whole root of a number, by both texts (impl: from the float's root, mended; spec: a binary search).
-/
import Derived.Test.YtmcddcdhppomkaaDoorSamples
import Derived.Test.YtmcddcdhppomkaaDoorFRoot
import Derived.Laws.Externs
namespace Go.Proofs.YtmcddcdhppomkaaDoor
open Go.RowKit

/-- The whole root, rounded down. -/
def rtN : Nat → Nat
  | 0 => 0
  | n + 1 => if (rtN n + 1) * (rtN n + 1) ≤ n + 1 then rtN n + 1 else rtN n
theorem rtN_is (n : Nat) : rtN n * rtN n ≤ n ∧ n < (rtN n + 1) * (rtN n + 1) := by
  induction n with
  | zero => exact ⟨Nat.le_refl _, by decide⟩
  | succ n ih =>
    unfold rtN
    split
    · rename_i h
      refine ⟨h, ?_⟩
      have e : (rtN n + 1 + 1) * (rtN n + 1 + 1) = (rtN n + 1) * (rtN n + 1) + 2 * (rtN n + 1) + 1 := by rw [Nat.add_mul, Nat.mul_add]; omega
      omega
    · exact ⟨Nat.le_succ_of_le ih.1, by omega⟩
theorem rt_unique {n : Nat} {r : Int} (h0 : 0 ≤ r) (h1 : r * r ≤ n) (h2 : (n : Int) < (r + 1) * (r + 1)) : r = (rtN n : Nat) := by
  obtain ⟨a, rfl⟩ := Int.eq_ofNat_of_zero_le h0
  have H := rtN_is n
  have h1' : a * a ≤ n := by exact_mod_cast h1
  have h2' : n < (a + 1) * (a + 1) := by exact_mod_cast h2
  obtain ⟨b, hb⟩ : ∃ b, rtN n = b := ⟨_, rfl⟩
  rw [hb] at H ⊢
  have k1 : a ≤ b := by
    rcases Nat.lt_or_ge b a with h | h
    · have := Nat.mul_le_mul h h
      simp only [Nat.succ_eq_add_one] at this
      omega
    · exact h
  have k2 : b ≤ a := by
    rcases Nat.lt_or_ge a b with h | h
    · have := Nat.mul_le_mul h h
      simp only [Nat.succ_eq_add_one] at this
      omega
    · exact h
  omega
theorem sq_bd {r R : Int} (h0 : 0 ≤ r) (h : r ≤ R) : 0 ≤ r * r ∧ r * r ≤ R * R :=
  ⟨Int.mul_nonneg h0 h0, Int.le_trans (Int.mul_le_mul_of_nonneg_right h h0) (Int.mul_le_mul_of_nonneg_left h (by omega))⟩
/-- a root of a number that is not large is not large. -/
theorem sq_low {r n R : Int} (h0 : 0 ≤ R) (h : r * r ≤ n) (hn : n < R * R) : r < R := by
  rcases Int.lt_or_le r R with h1 | h1
  · exact h1
  · exfalso
    have := sq_bd h0 h1
    omega

theorem run_to_float (n : Int) (w : World) : (convert 2 66 (.int .i64 n)).run Tryd.prog w = .ok (.float .f64 (FloatKind.f64.nearest n)) w := by kernel_rfl
theorem run_from_float {y : Nat} {v : Int} (h : (FloatKind.f64.decode y).toInt .zero = some v) (h0 : 0 ≤ v) (h1 : v < 2 ^ 53) (w : World) : (convert 66 2 (.float .f64 y)).run Tryd.prog w = .ok (.int .i64 v) w := by
  have e : (convert 66 2 (.float .f64 y)).run Tryd.prog w = (Conv.floatToInt .f64 y .i64).run Tryd.prog w := by kernel_rfl
  rw [e]
  unfold Conv.floatToInt
  simp only [h]
  rw [if_pos (by rw [show IntKind.i64.min = -9223372036854775808 by rfl, show IntKind.i64.max = 9223372036854775807 by rfl]; omega)]
  rfl
theorem run_sqrt {x y : Nat} (h : FloatKind.f64.format.sqrt x = some y) (w : World) : (callFunc 49 #[.float .f64 x]).run Tryd.prog w = .ok (.value (.float .f64 y)) w := by
  rw [run_callFunc_extern (P := Tryd.prog) (e := Extern.MathSqrt.sqrt) Tryd.func49 (by kernel_rfl) (by kernel_rfl) (by kernel_rfl) (by kernel_rfl)]
  have e : (Extern.MathSqrt.sqrt #[.float .f64 x] : Sem Value) = (match FloatKind.f64.format.sqrt x with
      | some r => (Pure.pure (Value.float .f64 r) : Sem Value)
      | none => (choose (.nanBits .f64 x x) >>= fun v => Pure.pure (Value.float .f64 v))) := rfl
  rw [e, h]
  rfl

set_option maxHeartbeats 1000000 in
theorem sqrt_any {x y : Nat} (h : FloatKind.f64.format.sqrt x = some y) (w : World) :
    Calls Tryd.prog 42 #[.float .f64 x] w fun e w' => e = .returned (.float .f64 y) ∧ w = w' := by
  have hs := run_sqrt h
  go_enter Tryd.func42, Tryd.ntmps42
  go_wp2
  go_ret
  exact ⟨rfl, rfl⟩

set_option maxHeartbeats 4000000 in
set_option maxRecDepth 20000 in
theorem iRoot_any (n : Nat) (w : World) (hn : n < 1073741824) :
    Calls Tryd.prog 27 #[.int .i64 n] w fun e w' => e = .returned (.int .i64 (rtN n : Nat)) ∧ w = w' := by
  by_cases h0 : n = 0
  · subst h0
    go_enter Tryd.func27, Tryd.ntmps27
    go_wp2
    go_ret
    exact ⟨rfl, rfl⟩
  · obtain ⟨x, HXX⟩ : ∃ x, Hid (FloatKind.f64.nearest n = x) := ⟨_, rfl⟩
    obtain ⟨y, hy, v, hv, hv0, hv1⟩ := sqrt_weak n (by omega)
    have hy' : FloatKind.f64.format.sqrt x = some y := by
      rw [← HXX.out, ← hy]
      unfold FloatKind.nearest
      rw [show decide ((n : Int) < 0) = false by simp]
      rfl
    have K := Lib.hid (fun w => sqrt_any hy' w)
    have h1 := run_to_float n
    rw [HXX.out] at h1
    have h2 := run_from_float (y := y) (v := v) hv hv0 hv1
    clear hy hv hy'
    go_enter Tryd.func27, Tryd.ntmps27
    go_wp2_with (go_at_call 42; refine (K.out _).mono ?_; rintro e w' ⟨rfl, rfl⟩)
    go_loop [3] (fun r => ∃ a : Int, 0 ≤ a ∧ a ≤ 3037000499 ∧ r = .int .i64 a) (fun r => (intOf r).toNat)
    case atStart => exact ⟨_, by omega, by omega, rfl⟩
    case round =>
      obtain ⟨a, ha0, ha1, rfl⟩ := hrel
      have hm := sq_bd ha0 ha1
      by_cases hlt : a * a > n
      · have ha2 : 0 < a := by
          rcases Int.lt_or_le 0 a with h | h
          · exact h
          · exfalso
            obtain rfl : a = 0 := by omega
            omega
        go_wp2
        go_round
        case rel => exact ⟨a - 1, by omega, by omega, rfl⟩
        case measure => simp [intOf]; omega
      · have hle : a * a ≤ n := by omega
        have HLE := Lib.hid hle
        go_wp2
        go_loop [3] (fun r => ∃ b : Int, 0 ≤ b ∧ Hid (b * b ≤ n) ∧ r = .int .i64 b) (fun r => 32768 - (intOf r).toNat)
        case atStart => exact ⟨a, ha0, HLE, rfl⟩
        case round =>
          obtain ⟨b, hb0, HB, rfl⟩ := hrel
          have hb1 := sq_low (R := 32768) (by omega) HB.out (by omega)
          have hm2 := sq_bd (r := b + 1) (R := 32768) (by omega) (by omega)
          by_cases hup : (b + 1) * (b + 1) ≤ n
          · have H3 := Lib.hid hup
            go_wp2
            go_round
            case rel => exact ⟨b + 1, by omega, H3, rfl⟩
            case measure => simp [intOf]; omega
          · have H3 := Lib.hid (rt_unique hb0 HB.out (by omega))
            go_wp2
            go_ret
            exact ⟨ret_int H3.out, rfl⟩

end Go.Proofs.YtmcddcdhppomkaaDoor
