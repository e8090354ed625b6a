/-
  Walks: names, by both texts.
-/
import Derived.Test.YtcoaldhmofdfgaaDoorBase
namespace Go.Proofs.YtcoaldhmofdfgaaDoor
open Go.RowKit

def smallI (c : Int) : Bool := decide (97 ≤ c ∧ c ≤ 122)
def digitI (c : Int) : Bool := decide (48 ≤ c ∧ c ≤ 57)
def wordI (c : Int) : Bool := smallI c || digitI c
def wordB (c : UInt8) : Bool := wordI c.toNat
/-- A name: 1 to 10 letters and digits, a letter first. -/
def nameB (s : ByteArray) : Bool := decide (1 ≤ s.size ∧ s.size ≤ 10) && smallI (s.data.toList.getD 0 0).toNat && s.data.toList.all wordB
theorem byte_at {s : ByteArray} {k : Nat} (h : k < s.size) : s.data.toList[k]? = some s[k] := by
  rw [Array.getElem?_toList, Array.getElem?_eq_getElem (by exact h)]; rfl
theorem nameB_empty {s : ByteArray} (h : s.size = 0) : nameB s = false := by unfold nameB; simp [h]
theorem nameB_long {s : ByteArray} (h : 10 < s.size) : nameB s = false := by
  unfold nameB; rw [decide_eq_false (by omega)]; simp
theorem nameB_first {s : ByteArray} (h : 0 < s.size) (hc : smallI s[0].toNat = false) : nameB s = false := by
  unfold nameB
  rw [List.getD_eq_getElem?_getD, byte_at h]
  simp [hc]
theorem nameB_bad {s : ByteArray} {k : Nat} (h : k < s.size) (hc : wordI s[k].toNat = false) : nameB s = false := by
  unfold nameB
  rw [all_false (p := wordB) (byte_at h) hc]
  simp
theorem nameB_ok {s : ByteArray} (h1 : 0 < s.size) (h2 : s.size ≤ 10) (hc : smallI s[0].toNat = true) (ha : s.data.toList.all wordB = true) : nameB s = true := by
  unfold nameB
  rw [List.getD_eq_getElem?_getD, byte_at h1, ha]
  simp only [Option.getD_some, hc, Bool.and_true, decide_eq_true_eq]
  omega
theorem nameB_size {s : ByteArray} (h : nameB s = true) : 1 ≤ s.size ∧ s.size ≤ 10 := by
  unfold nameB at h
  simp only [Bool.and_eq_true, decide_eq_true_eq] at h
  exact h.1.1
theorem data_len (s : ByteArray) : s.data.toList.length = s.size := by rw [Array.length_toList]; rfl

set_option maxHeartbeats 400000 in
theorem l01Digit_any (c : Int) (w : World) :
    Calls Tryd.prog 83 #[.int .u8 c] w fun e w' => e = .returned (.bool (digitI c)) ∧ w = w' := by
  by_cases h1 : 48 ≤ c
  · by_cases h2 : c ≤ 57
    · have H := Lib.hid (show digitI c = true by unfold digitI; simp [h1, h2])
      go_enter Tryd.func83, Tryd.ntmps83
      go_wp2
      go_ret
      exact ⟨ret_bool H.out.symm, rfl⟩
    · have H := Lib.hid (show digitI c = false by unfold digitI; simp [h2])
      go_enter Tryd.func83, Tryd.ntmps83
      go_wp2
      go_ret
      exact ⟨ret_bool H.out.symm, rfl⟩
  · have H := Lib.hid (show digitI c = false by unfold digitI; simp [h1])
    go_enter Tryd.func83, Tryd.ntmps83
    go_wp2
    go_ret
    exact ⟨ret_bool H.out.symm, rfl⟩

end Go.Proofs.YtcoaldhmofdfgaaDoor
