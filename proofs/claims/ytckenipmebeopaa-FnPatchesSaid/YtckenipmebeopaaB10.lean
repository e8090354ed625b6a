/-
  Walks: numbers that the laws choose by bytes.
-/
import Derived.Test.YtckenipmebeopaaSrc
namespace Go.Proofs.Ytckenipmebeopaa
open Go.RowKit

set_option maxHeartbeats 1000000 in
theorem b10At_any (A : Option Addr) (n c : Nat) (L : List Int) (i k : Int) (w : World) (h : Code w A n L) (hi : 0 ≤ i) (hi2 : i ≤ 1000000000) (hk : 1 < k) (hk2 : k ≤ 1000000000) :
    Calls Try.prog 13 #[.slice A n c, .int .i64 i, .int .i64 k] w fun e w' => ∃ x : Int, 0 ≤ x ∧ x < k ∧ e = .returned (.int .i64 x) ∧ w = w' := by
  have hlim := h.lim
  have H := Lib.hid h
  clear h
  obtain ⟨j, rfl⟩ : ∃ j : Nat, i = j := ⟨i.toNat, by omega⟩
  by_cases hlt : j < n
  · obtain ⟨b, o, z, rfl, hx, hcz⟩ := H.out.rd.byte (k := j) (by rw [H.out.len]; exact hlt)
    have hz := H.out.wf z (List.mem_of_getElem? hx)
    clear hx
    go_enter Try.func13, Try.ntmps13
    go_wp2
    go_ret
    exact ⟨z % k, Int.emod_nonneg _ (by omega), Int.emod_lt_of_pos _ (by omega), rfl, rfl⟩
  · go_enter Try.func13, Try.ntmps13
    go_wp2
    go_ret
    exact ⟨((j : Int) * 37 + 11) % k, Int.emod_nonneg _ (by omega), Int.emod_lt_of_pos _ (by omega), rfl, rfl⟩

set_option maxHeartbeats 1000000 in
theorem b10Wide_any (A : Option Addr) (n c : Nat) (L : List Int) (i k : Int) (w : World) (h : Code w A n L) (hi : 0 ≤ i) (hi2 : i ≤ 1000000) (hk : 1 < k) (hk2 : k ≤ 1000000000) :
    Calls Try.prog 9 #[.slice A n c, .int .i64 i, .int .i64 k] w fun e w' => ∃ x : Int, 0 ≤ x ∧ x < k ∧ e = .returned (.int .i64 x) ∧ w = w' := by
  have K1 := Lib.hid (b10At_any A n c L i 256 w h hi (by omega) (by omega) (by omega))
  have K2 := Lib.hid (b10At_any A n c L (i + 1) 256 w h (by omega) (by omega) (by omega) (by omega))
  have K3 := Lib.hid (b10At_any A n c L (i + 2) 256 w h (by omega) (by omega) (by omega) (by omega))
  clear h
  go_enter Try.func9, Try.ntmps9
  go_wp2_with fail
  refine K1.out.mono ?_
  rintro e w' ⟨x, hx0, hx1, rfl, rfl⟩
  dsimp only
  go_wp2_with fail
  refine K2.out.mono ?_
  rintro e w' ⟨y, hy0, hy1, rfl, rfl⟩
  dsimp only
  go_wp2_with fail
  refine K3.out.mono ?_
  rintro e w' ⟨z, hz0, hz1, rfl, rfl⟩
  dsimp only
  clear K1 K2 K3
  go_wp2
  go_ret
  exact ⟨(65536 * x + 256 * y + z) % k, Int.emod_nonneg _ (by omega), Int.emod_lt_of_pos _ (by omega), rfl, rfl⟩
theorem b10Long_no (A : Option Addr) (n c : Nat) (w : World) (h : n ≤ 1048576) :
    Calls Try.prog 5 #[.slice A n c] w fun e w' => e = .returned (.bool false) ∧ w = w' := by
  go_enter Try.func5, Try.ntmps5
  go_wp2
  go_ret
  exact ⟨ret_bool (by simp; omega), rfl⟩
end Go.Proofs.Ytckenipmebeopaa
