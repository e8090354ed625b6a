/-
  Walks: RealOf, LostTime, by both texts.
-/
import Derived.Test.YtcoaldhmofdfgaaDoorValidHolds
namespace Go.Proofs.YtcoaldhmofdfgaaDoor
open Go.RowKit

/-- When a show reaches a time. -/
def realL (L : List SHold) (show_ : Int) : Int := L.foldl (fun r h => if h.At < show_ then r + h.Length else r) show_
theorem realL_snoc (L : List SHold) (h : SHold) (t : Int) : realL (L ++ [h]) t = if h.At < t then realL L t + h.Length else realL L t := by unfold realL; simp
theorem realL_bd {L : List SHold} (h : ∀ x ∈ L, 1 ≤ x.Length ∧ x.Length ≤ 1800000) (t : Int) : t ≤ realL L t ∧ realL L t ≤ t + 1800000 * L.length := by
  have : ∀ (L : List SHold) (r : Int), (∀ x ∈ L, 1 ≤ x.Length ∧ x.Length ≤ 1800000) → r ≤ L.foldl (fun r h => if h.At < t then r + h.Length else r) r ∧ L.foldl (fun r h => if h.At < t then r + h.Length else r) r ≤ r + 1800000 * L.length := by
    intro L
    induction L with
    | nil => intro r _; simp
    | cons y L ih =>
      intro r hl
      have hy := hl y (by simp)
      have h2 := ih (if y.At < t then r + y.Length else r) (fun x hx => hl x (by simp [hx]))
      simp only [List.foldl_cons, List.length_cons]
      by_cases hq : y.At < t
      · rw [if_pos hq] at h2
        rw [if_pos hq]
        omega
      · rw [if_neg hq] at h2
        rw [if_neg hq]
        omega
  exact this L t h
theorem vhB_bd {x : SHold} (h : vhB x = true) : 0 ≤ x.At ∧ x.At ≤ 7200000 ∧ 1 ≤ x.Length ∧ x.Length ≤ 1800000 := by
  simp only [vhB, Bool.and_eq_true, inB_iff] at h
  omega
theorem vhs_len {L : List SHold} (h : vhs L = true) : L.length ≤ 16 := by simp only [vhs, Bool.and_eq_true, decide_eq_true_eq] at h; exact h.1
theorem vhs_at {L : List SHold} (h : vhs L = true) {k : Nat} {x : SHold} (hx : L[k]? = some x) : 0 ≤ x.At ∧ x.At ≤ 7200000 ∧ 1 ≤ x.Length ∧ x.Length ≤ 1800000 := by
  simp only [vhs, Bool.and_eq_true] at h
  exact vhB_bd (chk_all h.2 hx)
theorem vhs_mem {L : List SHold} (h : vhs L = true) {x : SHold} (hx : x ∈ L) : 0 ≤ x.At ∧ x.At ≤ 7200000 ∧ 1 ≤ x.Length ∧ x.Length ≤ 1800000 := by
  obtain ⟨i, hi⟩ := List.mem_iff_getElem?.1 hx
  exact vhs_at h hi
theorem realL_take {L : List SHold} (h : vhs L = true) (k : Nat) (t : Int) : t ≤ realL (L.take k) t ∧ realL (L.take k) t ≤ t + 28800000 := by
  have h1 := realL_bd (L := L.take k) (fun x hx => by have := vhs_mem h (List.mem_of_mem_take hx); omega) t
  have h2 := vhs_len h
  have h3 : (L.take k).length ≤ 16 := by simp; omega
  omega

set_option maxHeartbeats 1000000 in
theorem realOf_any (A : Option Addr) (n c : Nat) (L : List SHold) (t : Int) (w : World) (hr : Rd w A 2 cHold L) (hn : L.length = n) (hv : vhs L = true) (ht0 : -1000000000 ≤ t) (ht1 : t ≤ 1000000000) :
    Calls Tryd.prog 59 #[.slice A n c, .int .i64 t] w fun e w' => e = .returned (.int .i64 (realL L t)) ∧ G w w' := by
  have hb : n ≤ 16 := by rw [← hn]; exact vhs_len hv
  have Hn := Lib.hid hn
  have HR := Lib.hid hr
  have HV := Lib.hid hv
  clear hr hn hv
  go_enter Tryd.func59, Tryd.ntmps59
  go_wp2
  go_loopw [11, 5] (fun i v wr => ∃ k : Nat, k ≤ n ∧ i = .int .i64 k ∧ v = .int .i64 (realL (L.take k) t) ∧ G w wr) (fun i _ _ => n - (intOf i).toNat)
  case atStart => exact ⟨0, Nat.zero_le _, rfl, by simp [realL], G.refl _⟩
  case round =>
    obtain ⟨k, hk, rfl, rfl, hg⟩ := hrel
    have G0 := Lib.hid hg
    clear hg
    by_cases hlt : k < n
    · obtain ⟨b, o, x, rfl, hx, hc0, hc1⟩ := (HR.out.G G0.out).Hold (k := k) (by rw [Hn.out]; exact hlt)
      have hxb := vhs_at HV.out hx
      have hrb := realL_take HV.out k t
      have HS := Lib.hid (show realL (L.take (k + 1)) t = if x.At < t then realL (L.take k) t + x.Length else realL (L.take k) t by rw [take_snoc hx, realL_snoc])
      clear hx
      obtain ⟨r, HM⟩ : ∃ r, Hid (realL (L.take k) t = r) := ⟨_, rfl⟩
      rw [HM.out] at hrb
      rw [HM.out]
      by_cases hat : x.At < t
      · go_wp2
        go_roundw
        case rel => exact ⟨k + 1, by omega, by go_num, by rw [HS.out, if_pos (by assumption), HM.out], G0.out.alloc _⟩
        case measure => simp [intOf]; omega
      · go_wp2
        go_roundw
        case rel => exact ⟨k + 1, by omega, by go_num, by rw [HS.out, if_neg (by omega), HM.out], G0.out.alloc _⟩
        case measure => simp [intOf]; omega
    · have HK := Lib.hid (show L.take k = L from List.take_of_length_le (by rw [Hn.out]; omega))
      go_wp2
      go_ret
      exact ⟨ret_int (by rw [HK.out]), G0.out⟩

set_option maxHeartbeats 1000000 in
theorem l18Real_any (A : Option Addr) (n c : Nat) (L : List SHold) (t : Int) (w : World) (hr : Rd w A 2 cHold L) (hn : L.length = n) (hv : vhs L = true) (ht0 : -1000000000 ≤ t) (ht1 : t ≤ 1000000000) :
    Calls Tryd.prog 79 #[.slice A n c, .int .i64 t] w fun e w' => e = .returned (.int .i64 (realL L t)) ∧ w = w' := by
  have hb : n ≤ 16 := by rw [← hn]; exact vhs_len hv
  have Hn := Lib.hid hn
  have HR := Lib.hid hr
  have HV := Lib.hid hv
  clear hr hn hv
  go_enter Tryd.func79, Tryd.ntmps79
  go_wp2
  go_loop [6, 5] (fun i v => ∃ k : Nat, k ≤ n ∧ i = .int .i64 k ∧ v = .int .i64 (realL (L.take k) t)) (fun i _ => n - (intOf i).toNat)
  case atStart => exact ⟨0, Nat.zero_le _, rfl, by simp [realL]⟩
  case round =>
    obtain ⟨k, hk, rfl, rfl⟩ := hrel
    by_cases hlt : k < n
    · obtain ⟨b, o, x, rfl, hx, hc0, hc1⟩ := HR.out.Hold (k := k) (by rw [Hn.out]; exact hlt)
      have hxb := vhs_at HV.out hx
      have hrb := realL_take HV.out k t
      have HS := Lib.hid (show realL (L.take (k + 1)) t = if x.At < t then realL (L.take k) t + x.Length else realL (L.take k) t by rw [take_snoc hx, realL_snoc])
      clear hx
      obtain ⟨r, HM⟩ : ∃ r, Hid (realL (L.take k) t = r) := ⟨_, rfl⟩
      rw [HM.out] at hrb
      rw [HM.out]
      by_cases hat : x.At < t
      · go_wp2
        go_round
        case rel => exact ⟨k + 1, by omega, by go_num, by rw [HS.out, if_pos (by assumption), HM.out]⟩
        case measure => simp [intOf]; omega
      · go_wp2
        go_round
        case rel => exact ⟨k + 1, by omega, by go_num, by rw [HS.out, if_neg (by omega), HM.out]⟩
        case measure => simp [intOf]; omega
    · have HK := Lib.hid (show L.take k = L from List.take_of_length_le (by rw [Hn.out]; omega))
      go_wp2
      go_ret
      exact ⟨ret_int (by rw [HK.out]), rfl⟩

def realR (L : List SHold) (t : Int) : Int × Int := if vhs L then (if inB t 0 7200000 then (realL L t, 0) else (0, 2)) else (0, 1)
def lostR (L : List SHold) (t : Int) : Int × Int := if vhs L then (if inB t 0 7200000 then (realL L t - t, 0) else (0, 2)) else (0, 1)

set_option maxHeartbeats 1000000 in
theorem iRealOf_any (A : Option Addr) (n c : Nat) (L : List SHold) (t : Int) (w : World) (hr : Rd w A 2 cHold L) (hn : L.length = n) (hb : n ≤ 4194304) :
    Calls Tryd.prog 28 #[.slice A n c, .int .i64 t] w fun e w' => e = .returned (.tuple #[.int .i64 (realR L t).1, .int .i64 (realR L t).2]) ∧ G w w' := by
  have K1 := Lib.hid (fun (W : World) (g : G w W) => ValidHolds_any A n c L W (hr.G g) hn hb)
  cases hv : vhs L
  · have HD := Lib.hid (show realR L t = (0, 1) by simp [realR, hv])
    rw [hv] at K1
    go_enter Tryd.func28, Tryd.ntmps28
    go_wp2_with fail
    refine (K1.out _ (G.refl _)).mono ?_
    rintro e w1 ⟨rfl, g1⟩
    go_wp2
    go_ret2
    exact ⟨ret_ii HD.out, g1⟩
  · rw [hv] at K1
    cases ht : inB t 0 7200000
    · have HD := Lib.hid (show realR L t = (0, 2) by simp [realR, hv, ht])
      go_enter Tryd.func28, Tryd.ntmps28
      go_wp2_with fail
      refine (K1.out _ (G.refl _)).mono ?_
      rintro e w1 ⟨rfl, g1⟩
      go_wp2_with (go_at_call 45; refine (within_any _ _ _ _).mono ?_; rintro e w' ⟨rfl, rfl⟩)
      go_ret2
      exact ⟨ret_ii HD.out, g1⟩
    · have HD := Lib.hid (show realR L t = (realL L t, 0) by simp [realR, hv, ht])
      have hb2 := inB_iff.1 ht
      have K2 := Lib.hid (fun (W : World) (g : G w W) => realOf_any A n c L t W (hr.G g) hn hv (by omega) (by omega))
      clear hv
      go_enter Tryd.func28, Tryd.ntmps28
      go_wp2_with fail
      refine (K1.out _ (G.refl _)).mono ?_
      rintro e w1 ⟨rfl, g1⟩
      have G1 := Lib.hid g1
      clear g1
      go_wp2_with (first | (go_at_call 45; refine (within_any _ _ _ _).mono ?_; rintro e w' ⟨rfl, rfl⟩) | (go_at_call 59; refine (K2.out _ G1.out).mono ?_; rintro e w2 ⟨rfl, g2⟩))
      go_ret2
      exact ⟨ret_ii HD.out, G1.out.trans (by assumption)⟩

set_option maxHeartbeats 1000000 in
theorem iLostTime_any (A : Option Addr) (n c : Nat) (L : List SHold) (t : Int) (w : World) (hr : Rd w A 2 cHold L) (hn : L.length = n) (hb : n ≤ 4194304) :
    Calls Tryd.prog 29 #[.slice A n c, .int .i64 t] w fun e w' => e = .returned (.tuple #[.int .i64 (lostR L t).1, .int .i64 (lostR L t).2]) ∧ G w w' := by
  have K1 := Lib.hid (fun (W : World) (g : G w W) => iRealOf_any A n c L t W (hr.G g) hn hb)
  cases hv : vhs L
  · have HD := Lib.hid (show lostR L t = (0, 1) by simp [lostR, hv])
    rw [show realR L t = (0, 1) by simp [realR, hv]] at K1
    go_enter Tryd.func29, Tryd.ntmps29
    go_wp2_with fail
    refine (K1.out _ (G.refl _)).mono ?_
    rintro e w1 ⟨rfl, g1⟩
    go_wp2
    go_ret2
    exact ⟨ret_ii HD.out, g1⟩
  · cases ht : inB t 0 7200000
    · have HD := Lib.hid (show lostR L t = (0, 2) by simp [lostR, hv, ht])
      rw [show realR L t = (0, 2) by simp [realR, hv, ht]] at K1
      go_enter Tryd.func29, Tryd.ntmps29
      go_wp2_with fail
      refine (K1.out _ (G.refl _)).mono ?_
      rintro e w1 ⟨rfl, g1⟩
      go_wp2
      go_ret2
      exact ⟨ret_ii HD.out, g1⟩
    · have HD := Lib.hid (show lostR L t = (realL L t - t, 0) by simp [lostR, hv, ht])
      have hb2 := inB_iff.1 ht
      have hb3 := realL_take hv L.length t
      rw [List.take_length] at hb3
      rw [show realR L t = (realL L t, 0) by simp [realR, hv, ht]] at K1
      go_enter Tryd.func29, Tryd.ntmps29
      go_wp2_with fail
      refine (K1.out _ (G.refl _)).mono ?_
      rintro e w1 ⟨rfl, g1⟩
      go_wp2
      go_ret2
      exact ⟨ret_ii HD.out, g1⟩

end Go.Proofs.YtcoaldhmofdfgaaDoor
