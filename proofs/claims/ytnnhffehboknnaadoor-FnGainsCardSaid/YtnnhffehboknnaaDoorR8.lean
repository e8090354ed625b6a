/-
  Walks (door seat S1D): numbers that the laws choose by bytes; the law FnGains.
-/
import Derived.Test.YtnnhffehboknnaaDoorGainsM
import Derived.Test.YtnnhffehboknnaaDoorMem
namespace Go.Proofs.YtnnhffehboknnaaDoor
open Go.RowKit

/-- A byte: one cell. -/
def bv (n : Int) : List Value := [.int .u8 n]
theorem Rd.byte {w : World} {A : Option Addr} {L : List Int} (h : Rd w A 1 bv L) {k : Nat} (hk : k < L.length) :
    ∃ b o x, A = some ⟨b, o, none⟩ ∧ L[k]? = some x ∧ w.cell? ⟨b, o + k, none⟩ = some (.int .u8 x) := by
  obtain ⟨b, o, x, e, hx, hc⟩ := h.at_ hk
  exact ⟨b, o, x, e, hx, by simpa using hc 0 (.int .u8 x) rfl⟩
/-- The bytes that came in. -/
structure Code (w : World) (A : Option Addr) (n : Nat) (L : List Int) : Prop where
  rd : Rd w A 1 bv L
  len : L.length = n
  lim : n ≤ 1048576
  wf : ∀ x ∈ L, 0 ≤ x ∧ x ≤ 255
theorem Code.g {w w' : World} {A : Option Addr} {n : Nat} {L : List Int} (h : Code w A n L) (g : G w w') : Code w' A n L := ⟨h.rd.G g, h.len, h.lim, h.wf⟩
theorem code_of_isRow {w : World} {a : Option Addr} {len cap : Nat} {zs : List Int} (h : IsRow .u8 w a len cap zs) (hl : len ≤ 1048576) : Code w a len (zs.take len) ∧ ∀ x, a = some x → zs.take len ≠ [] → x.block < w.heap.size := by
  rcases h with ⟨rfl, rfl, rfl, rfl⟩ | ⟨x, rfl, hlc, hm, hz, hc, hw⟩
  · exact ⟨⟨Rd.nil _ _ _ _, rfl, by omega, fun x hx => by simp at hx⟩, fun x hx => by cases hx⟩
  · have hne : zs.take len ≠ [] → 0 < zs.length := fun hn => by
      cases zs with
      | nil => simp at hn
      | cons => simp
    refine ⟨⟨fun hn => ?_, by rw [List.length_take, hz]; omega, hl, fun y hy => ?_⟩, fun y hy hn => ?_⟩
    · obtain ⟨b, o, spot⟩ := x
      have h0 := hc 0 (hne hn)
      have hspot : spot = none := by simpa [Addr.add] using World.cell?_spot h0
      subst hspot
      refine ⟨b, o, rfl, fun i y j u hi hj => ?_⟩
      have hil := (List.getElem?_eq_some_iff.1 hi).1
      simp only [List.length_take] at hil
      have := hc i (by omega)
      rw [Addr.add_mid] at this
      match j, hj with
      | 0, hj =>
        simp only [bv, List.getElem?_cons_zero, Option.some.injEq] at hj
        subst hj
        rw [List.getElem?_take, if_pos (by omega)] at hi
        simp only [Nat.mul_one, Nat.add_zero]
        rw [this, List.getD_eq_getElem?_getD, hi]
        rfl
      | j + 1, hj => simp [bv] at hj
    · have := hw y (List.mem_of_mem_take hy)
      simp [Lit.wf, IntKind.min, IntKind.max, IntKind.bits, IntKind.signed] at this
      omega
    · cases hy
      have h0 := hc 0 (hne hn)
      have := block_lt_of_cell h0
      simpa [Addr.add] using this

set_option maxHeartbeats 1000000 in
theorem r8At_any (A : Option Addr) (n c : Nat) (L : List Int) (i k : Int) (w : World) (h : Code w A n L) (hi : 0 ≤ i) (hi2 : i ≤ 1000000000) (hk : 1 < k) (hk2 : k ≤ 1000000000) :
    Calls Tryd.prog 11 #[.slice A n c, .int .i64 i, .int .i64 k] w fun e w' => ∃ x : Int, 0 ≤ x ∧ x < k ∧ e = .returned (.int .i64 x) ∧ w = w' := by
  have hlim := h.lim
  have H := Lib.hid h
  clear h
  obtain ⟨j, rfl⟩ : ∃ j : Nat, i = j := ⟨i.toNat, by omega⟩
  have hd0 : decide (k ≤ 1) = false := by simp; omega
  by_cases hlt : j < n
  · obtain ⟨b, o, z, rfl, hx, hcz⟩ := H.out.rd.byte (k := j) (by rw [H.out.len]; exact hlt)
    have hz := H.out.wf z (List.mem_of_getElem? hx)
    have hd1 : decide ((j : Int) ≥ (n : Int)) = false := by simp; omega
    clear hx
    go_enter Tryd.func11, Tryd.ntmps11
    go_wp2
    go_ret
    exact ⟨z % k, Int.emod_nonneg _ (by omega), Int.emod_lt_of_pos _ (by omega), rfl, rfl⟩
  · have hd1 : decide ((j : Int) ≥ (n : Int)) = true := by simp; omega
    go_enter Tryd.func11, Tryd.ntmps11
    go_wp2
    go_ret
    exact ⟨0, by omega, by omega, rfl, rfl⟩

set_option maxHeartbeats 1000000 in
theorem r8Wide_any (A : Option Addr) (n c : Nat) (L : List Int) (i k : Int) (w : World) (h : Code w A n L) (hi : 0 ≤ i) (hi2 : i ≤ 1000000) (hk : 1 < k) (hk2 : k ≤ 1000000000) :
    Calls Tryd.prog 6 #[.slice A n c, .int .i64 i, .int .i64 k] w fun e w' => ∃ x : Int, 0 ≤ x ∧ x < k ∧ e = .returned (.int .i64 x) ∧ w = w' := by
  have K1 := Lib.hid (r8At_any A n c L i 256 w h hi (by omega) (by omega) (by omega))
  have K2 := Lib.hid (r8At_any A n c L (i + 1) 256 w h (by omega) (by omega) (by omega) (by omega))
  clear h
  go_enter Tryd.func6, Tryd.ntmps6
  go_wp2_with fail
  refine K1.out.mono ?_
  rintro e w' ⟨x, hx0, hx1, rfl, rfl⟩
  dsimp only
  go_wp2_with fail
  refine K2.out.mono ?_
  rintro e w' ⟨y, hy0, hy1, rfl, rfl⟩
  dsimp only
  clear K1 K2
  go_wp2
  go_ret
  exact ⟨(256 * x + y) % k, Int.emod_nonneg _ (by omega), Int.emod_lt_of_pos _ (by omega), rfl, rfl⟩
theorem r8Abs_any (z : Int) (h0 : -2000000000000 ≤ z) (h1 : z ≤ 2000000000000) (w : World) :
    Calls Tryd.prog 12 #[.int .i64 z] w fun e w' => e = .returned (.int .i64 (max z (-z))) ∧ w = w' := by
  go_enter Tryd.func12, Tryd.ntmps12
  go_wp2
  go_ret
  exact ⟨rfl, rfl⟩
end Go.Proofs.YtnnhffehboknnaaDoor
