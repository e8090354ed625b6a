/-
  Walks: names, by both texts.
-/
import Derived.Test.YtmcddcdhppomkaaDoorBase
namespace Go.Proofs.YtmcddcdhppomkaaDoor
open Go.RowKit

def smallI (c : Int) : Bool := decide (97 ≤ c ∧ c ≤ 122)
def digitI (c : Int) : Bool := decide (48 ≤ c ∧ c ≤ 57)
def wordI (c : Int) : Bool := smallI c || digitI c
def wordB (c : UInt8) : Bool := wordI c.toNat
/-- A name: 1 to 10 letters and digits, a letter first. -/
def nameB (s : ByteArray) : Bool := decide (1 ≤ s.size ∧ s.size ≤ 10) && smallI (s.data.toList.getD 0 0).toNat && s.data.toList.all wordB
theorem byte_at {s : ByteArray} {k : Nat} (h : k < s.size) : s.data.toList[k]? = some s[k] := by
  rw [Array.getElem?_toList, Array.getElem?_eq_getElem (by exact h)]; rfl
theorem nameB_empty {s : ByteArray} (h : s.size = 0) : nameB s = false := by unfold nameB; simp [h]
theorem nameB_long {s : ByteArray} (h : 10 < s.size) : nameB s = false := by
  unfold nameB; rw [decide_eq_false (by omega)]; simp
theorem nameB_first {s : ByteArray} (h : 0 < s.size) (hc : smallI s[0].toNat = false) : nameB s = false := by
  unfold nameB
  rw [List.getD_eq_getElem?_getD, byte_at h]
  simp [hc]
theorem nameB_bad {s : ByteArray} {k : Nat} (h : k < s.size) (hc : wordI s[k].toNat = false) : nameB s = false := by
  unfold nameB
  rw [all_false (p := wordB) (byte_at h) hc]
  simp
theorem nameB_ok {s : ByteArray} (h1 : 0 < s.size) (h2 : s.size ≤ 10) (hc : smallI s[0].toNat = true) (ha : s.data.toList.all wordB = true) : nameB s = true := by
  unfold nameB
  rw [List.getD_eq_getElem?_getD, byte_at h1, ha]
  simp only [Option.getD_some, hc, Bool.and_true, decide_eq_true_eq]
  omega
theorem nameB_size {s : ByteArray} (h : nameB s = true) : 1 ≤ s.size ∧ s.size ≤ 10 := by
  unfold nameB at h
  simp only [Bool.and_eq_true, decide_eq_true_eq] at h
  exact h.1.1
theorem data_len (s : ByteArray) : s.data.toList.length = s.size := by rw [Array.length_toList]; rfl

set_option maxHeartbeats 1000000 in
theorem IsName_any (s : ByteArray) (hs : s.size ≤ maxLen) (w : World) :
    Calls Tryd.prog 47 #[.string s] w fun e w' => e = .returned (.bool (nameB s)) ∧ w = w' := by
  unfold maxLen at hs
  by_cases h0 : s.size = 0
  · have H := Lib.hid (nameB_empty h0)
    have he : s = ⟨#[]⟩ := by
      cases s with
      | mk d => congr; exact Array.eq_empty_of_size_eq_zero h0
    subst he
    clear hs h0
    go_enter Tryd.func47, Tryd.ntmps47
    go_wp2
    go_ret
    exact ⟨ret_bool H.out.symm, rfl⟩
  have h1 : 0 < s.size := by omega
  clear h0
  by_cases h10 : s.size ≤ 10
  · cases hf : smallI s[0].toNat
    · have H := Lib.hid (nameB_first h1 hf)
      have hq : (s[0].toNat : Int) < 97 ∨ 122 < (s[0].toNat : Int) := by unfold smallI at hf; simp only [decide_eq_false_iff_not] at hf; omega
      clear hf
      rcases hq with hq | hq
      · go_enter Tryd.func47, Tryd.ntmps47
        go_wp2
        go_ret
        exact ⟨ret_bool H.out.symm, rfl⟩
      · have hq2 : 97 ≤ (s[0].toNat : Int) := by omega
        go_enter Tryd.func47, Tryd.ntmps47
        go_wp2
        go_ret
        exact ⟨ret_bool H.out.symm, rfl⟩
    · have HF := Lib.hid hf
      have hq : 97 ≤ (s[0].toNat : Int) ∧ (s[0].toNat : Int) ≤ 122 := by unfold smallI at hf; simpa using hf
      obtain ⟨hq1, hq2⟩ := hq
      clear hf
      go_enter Tryd.func47, Tryd.ntmps47
      go_wp2
      go_loop [3] (fun i => ∃ k : Nat, k ≤ s.size ∧ i = .int .i64 k ∧ (s.data.toList.take k).all wordB = true) (fun i => s.size - (intOf i).toNat)
      case atStart => exact ⟨0, Nat.zero_le _, rfl, by simp⟩
      case round =>
        obtain ⟨k, hk, rfl, ha⟩ := hrel
        have HA := Lib.hid ha
        clear ha
        by_cases hlt : k < s.size
        · have HB := Lib.hid (byte_at hlt)
          by_cases c1 : 97 ≤ (s[k].toNat : Int)
          · by_cases c2 : (s[k].toNat : Int) ≤ 122
            · have HW := Lib.hid (show wordB s[k] = true by unfold wordB wordI smallI; simp; omega)
              go_wp2
              go_round
              case rel => exact ⟨k + 1, by omega, by go_num, all_snoc HB.out HA.out HW.out⟩
              case measure => simp [intOf]; omega
            · have c3 : 48 ≤ (s[k].toNat : Int) := by omega
              have c4 : ¬ (s[k].toNat : Int) ≤ 57 := by omega
              have H := Lib.hid (nameB_bad hlt (show wordI s[k].toNat = false by unfold wordI smallI digitI; simp; omega))
              go_wp2
              go_ret
              exact ⟨ret_bool H.out.symm, rfl⟩
          · by_cases c3 : 48 ≤ (s[k].toNat : Int)
            · by_cases c4 : (s[k].toNat : Int) ≤ 57
              · have HW := Lib.hid (show wordB s[k] = true by unfold wordB wordI smallI digitI; simp; omega)
                go_wp2
                go_round
                case rel => exact ⟨k + 1, by omega, by go_num, all_snoc HB.out HA.out HW.out⟩
                case measure => simp [intOf]; omega
              · have H := Lib.hid (nameB_bad hlt (show wordI s[k].toNat = false by unfold wordI smallI digitI; simp; omega))
                go_wp2
                go_ret
                exact ⟨ret_bool H.out.symm, rfl⟩
            · have H := Lib.hid (nameB_bad hlt (show wordI s[k].toNat = false by unfold wordI smallI digitI; simp; omega))
              go_wp2
              go_ret
              exact ⟨ret_bool H.out.symm, rfl⟩
        · have H := Lib.hid (nameB_ok h1 h10 HF.out (all_take_all (by rw [data_len]; omega) HA.out))
          go_wp2
          go_ret
          exact ⟨ret_bool H.out.symm, rfl⟩
  · have H := Lib.hid (nameB_long (s := s) (by omega))
    go_enter Tryd.func47, Tryd.ntmps47
    go_wp2
    go_ret
    exact ⟨ret_bool H.out.symm, rfl⟩
end Go.Proofs.YtmcddcdhppomkaaDoor
