/-
  Walks: the decimal text of a number, by the reference's text.
-/
import Derived.Test.YtmcddcdhppomkaaDoorRes
import Derived.Test.YtmcddcdhppomkaaDoorBase
import Derived.Lib.ItoaNum
import Derived.Lib.ItoaLen
import Derived.Lib.SlBytesRow
namespace Go.Proofs.YtmcddcdhppomkaaDoor
open Go.RowKit

/-- A byte: one cell. -/
def uv (x : UInt8) : List Value := [.int .u8 (x.toNat : Int)]
theorem uv_one (x : UInt8) : ∀ u ∈ uv x, u.oneCell' = true := by
  intro u hu
  simp only [uv, List.mem_singleton] at hu
  subst hu
  rfl
theorem infoByte : (Tryd.prog.info? 5).map (fun i => (i.zero, i.size, i.bytes)) = some (some (.int .u8 0), 1, 1) := by kernel_rfl
theorem flat_uv (L : List UInt8) : L.flatMap uv = L.map fun x => Value.int .u8 (x.toNat : Int) := by
  induction L with
  | nil => rfl
  | cons y L ih => rw [List.flatMap_cons, ih]; rfl
theorem flat_uv_at {L : List UInt8} {k : Nat} {x : UInt8} (h : L[k]? = some x) : (L.flatMap uv)[k]? = some (.int .u8 (x.toNat : Int)) := by rw [flat_uv, List.getElem?_map, h]; rfl
/-- The digits, the last ahead; none for 0. -/
def revD (u : Nat) : List UInt8 := if h : u = 0 then [] else UInt8.ofNat (48 + u % 10) :: revD (u / 10)
termination_by u
decreasing_by omega
theorem revD_zero : revD 0 = [] := by rw [revD, dif_pos rfl]
theorem revD_pos {u : Nat} (h : 0 < u) : revD u = UInt8.ofNat (48 + u % 10) :: revD (u / 10) := by rw [revD, dif_neg (by omega)]
theorem revD_dec (u : Nat) (h : 0 < u) : (revD u).reverse = Lib.decDigits u := by
  induction u using Nat.strongRecOn with
  | _ u ih =>
    rw [revD_pos h, List.reverse_cons]
    by_cases h1 : u < 10
    · rw [show u / 10 = 0 by omega, revD_zero, Lib.decDigits_one h1, show u % 10 = u by omega]
      rfl
    · rw [ih (u / 10) (by omega) (by omega)]
      conv => rhs; rw [Lib.decDigits, dif_neg h1]
theorem revD_len (u : Nat) (h : u < 18446744073709551616) : (revD u).length ≤ 20 := by
  by_cases h0 : u = 0
  · subst h0; rw [revD_zero]; simp
  · rw [← List.length_reverse, revD_dec u (by omega), Lib.decDigits_length]
    exact Lib.nDigits_le20 u h
theorem dig_byte (k : Nat) : ((UInt8.ofNat (48 + k % 10)).toNat : Int) = 48 + ((k % 10 : Nat) : Int) := by
  rw [UInt8.toNat_ofNat', Nat.mod_eq_of_lt (by omega)]
  omega
theorem itoa_pos {n : Nat} : Lib.itoa (n : Int) = Lib.decDigits n := by unfold Lib.itoa; rw [if_neg (by omega), Int.toNat_natCast]
theorem itoa_neg {n : Nat} (h : 0 < n) : Lib.itoa (-(n : Int)) = 45 :: Lib.decDigits n := by unfold Lib.itoa; rw [if_pos (by omega), Int.natAbs_neg, Int.natAbs_natCast]
theorem bytes_own {w : World} {B T n c g : Nat} {L : List UInt8} (h : w.ownsRow B T 1 (.slice (some ⟨g, 0, none⟩) n c) n (L.flatMap uv)) : Lib.Bytes w g 0 ⟨L.toArray⟩ := fun i hi => by
  have hi2 : i < L.length := hi
  rw [Nat.zero_add]
  have := own_cellAt_mid h (flat_uv_at (List.getElem?_eq_getElem hi2))
  rw [this]
  rfl
theorem own_head {w : World} {B T sz n c : Nat} {A : Option Addr} {xs : List Value} (h : w.ownsRow B T sz (.slice A n c) n xs) (hn : 0 < n) : ∃ b, A = some ⟨b, 0, none⟩ := by
  rcases h.2 with ⟨_, h0⟩ | ⟨g, cap, cur, e, _⟩
  · omega
  · simp only [Value.slice.injEq] at e
    exact ⟨g, e.1⟩
theorem own_sl {w : World} {B T sz n : Nat} {v : Value} {xs : List Value} (h : w.ownsRow B T sz v n xs) : ∃ A c, v = .slice A n c ∧ n ≤ c := by
  rcases h.2 with ⟨rfl, rfl⟩ | ⟨g, cap, cur, rfl, _, _, h1, _⟩
  · exact ⟨_, _, rfl, Nat.le_refl _⟩
  · exact ⟨_, _, rfl, h1⟩

end Go.Proofs.YtmcddcdhppomkaaDoor
