/-
  Walks: numbers that the laws choose by bytes.
-/
import Derived.Test.YtmcddcdhppomkaaDoorSrc
namespace Go.Proofs.YtmcddcdhppomkaaDoor
open Go.RowKit

set_option maxHeartbeats 1000000 in
theorem r8At_any (A : Option Addr) (n c : Nat) (L : List Int) (i k : Int) (w : World) (h : Code w A n L) (hi : 0 ≤ i) (hi2 : i ≤ 1000000000) (hk : 1 < k) (hk2 : k ≤ 1000000000) :
    Calls Tryd.prog 32 #[.slice A n c, .int .i64 i, .int .i64 k] w fun e w' => ∃ x : Int, 0 ≤ x ∧ x < k ∧ e = .returned (.int .i64 x) ∧ w = w' := by
  have hlim := h.lim
  have H := Lib.hid h
  clear h
  obtain ⟨j, rfl⟩ : ∃ j : Nat, i = j := ⟨i.toNat, by omega⟩
  have hd0 : decide (k ≤ 1) = false := by simp; omega
  by_cases hlt : j < n
  · obtain ⟨b, o, z, rfl, hx, hcz⟩ := H.out.rd.byte (k := j) (by rw [H.out.len]; exact hlt)
    have hz := H.out.wf z (List.mem_of_getElem? hx)
    have hd1 : decide ((j : Int) ≥ (n : Int)) = false := by simp; omega
    clear hx
    go_enter Tryd.func32, Tryd.ntmps32
    go_wp2
    go_ret
    exact ⟨z % k, Int.emod_nonneg _ (by omega), Int.emod_lt_of_pos _ (by omega), rfl, rfl⟩
  · have hd1 : decide ((j : Int) ≥ (n : Int)) = true := by simp; omega
    go_enter Tryd.func32, Tryd.ntmps32
    go_wp2
    go_ret
    exact ⟨0, by omega, by omega, rfl, rfl⟩

set_option maxHeartbeats 1000000 in
theorem r8Wide_any (A : Option Addr) (n c : Nat) (L : List Int) (i k : Int) (w : World) (h : Code w A n L) (hi : 0 ≤ i) (hi2 : i ≤ 1000000) (hk : 1 < k) (hk2 : k ≤ 1000000000) :
    Calls Tryd.prog 13 #[.slice A n c, .int .i64 i, .int .i64 k] w fun e w' => ∃ x : Int, 0 ≤ x ∧ x < k ∧ e = .returned (.int .i64 x) ∧ w = w' := by
  have K1 := Lib.hid (r8At_any A n c L i 256 w h hi (by omega) (by omega) (by omega))
  have K2 := Lib.hid (r8At_any A n c L (i + 1) 256 w h (by omega) (by omega) (by omega) (by omega))
  clear h
  go_enter Tryd.func13, Tryd.ntmps13
  go_wp2_with fail
  refine K1.out.mono ?_
  rintro e w' ⟨x, hx0, hx1, rfl, rfl⟩
  dsimp only
  go_wp2_with fail
  refine K2.out.mono ?_
  rintro e w' ⟨y, hy0, hy1, rfl, rfl⟩
  dsimp only
  clear K1 K2
  go_wp2
  go_ret
  exact ⟨(256 * x + y) % k, Int.emod_nonneg _ (by omega), Int.emod_lt_of_pos _ (by omega), rfl, rfl⟩
theorem r8Abs_any (z : Int) (h0 : -2000000000000 ≤ z) (h1 : z ≤ 2000000000000) (w : World) :
    Calls Tryd.prog 18 #[.int .i64 z] w fun e w' => e = .returned (.int .i64 (max z (-z))) ∧ w = w' := by
  go_enter Tryd.func18, Tryd.ntmps18
  go_wp2
  go_ret
  exact ⟨rfl, rfl⟩
theorem r8Long_no (A B : Option Addr) (n c m d : Nat) (hn : n ≤ 1048576) (hm : m ≤ 1048576) (w : World) :
    Calls Tryd.prog 4 #[.slice A n c, .slice B m d] w fun e w' => e = .returned (.bool false) ∧ w = w' := by
  have h1 : decide ((1048576 : Int) < (n : Int)) = false := by simp; omega
  have h2 : decide ((1048576 : Int) < (m : Int)) = false := by simp; omega
  have h3 : ¬ ((1048576 : Int) < (n : Int)) := by omega
  have h4 : ¬ ((1048576 : Int) < (m : Int)) := by omega
  go_enter Tryd.func4, Tryd.ntmps4
  go_wp2
  go_ret
  first | done | exact ⟨rfl, rfl⟩
end Go.Proofs.YtmcddcdhppomkaaDoor
