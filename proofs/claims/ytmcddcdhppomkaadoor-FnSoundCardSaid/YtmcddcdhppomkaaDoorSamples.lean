/-
  Walks: samples: valid ones, their peak; the law of PeakOf.
-/
import Derived.Test.YtmcddcdhppomkaaDoorInts
import Derived.Test.YtmcddcdhppomkaaDoorNear
import Derived.Test.YtmcddcdhppomkaaDoorExt
namespace Go.Proofs.YtmcddcdhppomkaaDoor
open Go.RowKit

def okS (x : Int) : Bool := inB x (-32767) 32767
def vs (L : List Int) : Bool := decide (L.length ≤ 64) && L.all okS
def peakL (L : List Int) : Int := L.foldl (fun m x => max m (absI x)) 0
theorem peakL_snoc (L : List Int) (x : Int) : peakL (L ++ [x]) = max (peakL L) (absI x) := by unfold peakL; simp
theorem vs_len {L : List Int} (h : L.length ≤ 64) (ha : L.all okS = true) : vs L = true := by unfold vs; simp [h, ha]
theorem vs_long {L : List Int} (h : 64 < L.length) : vs L = false := by unfold vs; simp; omega
theorem vs_bad {L : List Int} (ha : L.all okS = false) : vs L = false := by unfold vs; rw [ha]; simp
theorem vs_all {L : List Int} (h : vs L = true) : L.length ≤ 64 ∧ L.all okS = true := by unfold vs at h; simpa using h
theorem okS_bd {x : Int} (h : okS x = true) : -32767 ≤ x ∧ x ≤ 32767 := inB_iff.1 h
theorem vs_at {L : List Int} (h : vs L = true) {k : Nat} {x : Int} (hx : L[k]? = some x) : -32767 ≤ x ∧ x ≤ 32767 := okS_bd (all_at (vs_all h).2 hx)
theorem peakL_bd {L : List Int} (h : L.all okS = true) : 0 ≤ peakL L ∧ peakL L ≤ 32767 := by
  have : ∀ (L : List Int) (m : Int), 0 ≤ m → m ≤ 32767 → L.all okS = true → 0 ≤ L.foldl (fun m x => max m (absI x)) m ∧ L.foldl (fun m x => max m (absI x)) m ≤ 32767 := by
    intro L
    induction L with
    | nil => intro m h0 h1 _; exact ⟨h0, h1⟩
    | cons y L ih =>
      intro m h0 h1 h
      simp only [List.all_cons, Bool.and_eq_true] at h
      have := absI_bd (okS_bd h.1)
      exact ih _ (by show 0 ≤ max _ _; omega) (by show max _ _ ≤ (32767 : Int); omega) h.2
  exact this L 0 (by omega) (by omega) h
theorem all_take {p : Int → Bool} {L : List Int} (h : L.all p = true) (k : Nat) : (L.take k).all p = true := by
  rw [List.all_eq_true] at h ⊢
  exact fun x hx => h x (List.mem_of_mem_take hx)

set_option maxHeartbeats 1000000 in
theorem validSamples_any (A : Option Addr) (n c : Nat) (L : List Int) (w : World) (hr : Rd w A 1 iv L) (hn : L.length = n) (hb : n ≤ 4194304) :
    Calls Tryd.prog 21 #[.slice A n c] w fun e w' => e = .returned (.bool (vs L)) ∧ w = w' := by
  have Hn := Lib.hid hn
  have HR := Lib.hid hr
  clear hr
  by_cases h64 : n ≤ 64
  · clear hn
    go_enter Tryd.func21, Tryd.ntmps21
    go_wp2
    go_loop [10] (fun i => ∃ k : Nat, k ≤ n ∧ i = .int .i64 k ∧ (L.take k).all okS = true) (fun i => n - (intOf i).toNat)
    case atStart => exact ⟨0, Nat.zero_le _, rfl, by simp⟩
    case round =>
      obtain ⟨k, hk, rfl, ha⟩ := hrel
      have HA := Lib.hid ha
      clear ha
      by_cases hlt : k < n
      · obtain ⟨b, o, x, rfl, hx, hc⟩ := HR.out.int (k := k) (by rw [Hn.out]; exact hlt)
        have HX := Lib.hid hx
        clear hx
        cases hv : inB x (-32767) 32767
        · go_wp2_with (go_at_call 40; refine (within_any _ _ _ _).mono ?_; rintro e w' ⟨rfl, rfl⟩)
          go_ret
          exact ⟨ret_bool (vs_bad (all_false HX.out hv)).symm, rfl⟩
        · go_wp2_with (go_at_call 40; refine (within_any _ _ _ _).mono ?_; rintro e w' ⟨rfl, rfl⟩)
          go_round
          case rel => exact ⟨k + 1, by omega, by go_num, all_snoc HX.out HA.out hv⟩
          case measure => simp [intOf]; omega
      · go_wp2
        go_ret
        exact ⟨ret_bool (vs_len (by rw [Hn.out]; exact h64) (all_take_all (by rw [Hn.out]; omega) HA.out)).symm, rfl⟩
  · have HV := Lib.hid (vs_long (L := L) (by omega))
    clear hn
    go_enter Tryd.func21, Tryd.ntmps21
    go_wp2
    go_ret
    exact ⟨ret_bool HV.out.symm, rfl⟩

set_option maxHeartbeats 1000000 in
theorem peakOf_any (A : Option Addr) (n c : Nat) (L : List Int) (w : World) (hr : Rd w A 1 iv L) (hn : L.length = n) (hb : n ≤ 64) (hv : L.all okS = true) :
    Calls Tryd.prog 26 #[.slice A n c] w fun e w' => e = .returned (.int .i64 (peakL L)) ∧ w = w' := by
  have Hn := Lib.hid hn
  have HR := Lib.hid hr
  have HV := Lib.hid hv
  clear hr hn hv
  go_enter Tryd.func26, Tryd.ntmps26
  go_wp2
  go_loop [8, 3] (fun i m => ∃ k : Nat, k ≤ n ∧ i = .int .i64 k ∧ m = .int .i64 (peakL (L.take k))) (fun i _ => n - (intOf i).toNat)
  case atStart => exact ⟨0, Nat.zero_le _, rfl, by simp [peakL]⟩
  case round =>
    obtain ⟨k, hk, rfl, rfl⟩ := hrel
    by_cases hlt : k < n
    · obtain ⟨b, o, x, rfl, hx, hc⟩ := HR.out.int (k := k) (by rw [Hn.out]; exact hlt)
      have HP := Lib.hid (show peakL (L.take (k + 1)) = max (peakL (L.take k)) (absI x) by rw [take_snoc hx, peakL_snoc])
      have hxb := okS_bd (all_at HV.out hx)
      clear hx
      obtain ⟨m, HM⟩ : ∃ m, Hid (peakL (L.take k) = m) := ⟨_, rfl⟩
      rw [HM.out]
      go_wp2_with (go_at_call 41; refine (absOf_any _ (by omega) _).mono ?_; rintro e w' ⟨rfl, rfl⟩)
      go_round
      case rel => exact ⟨k + 1, by omega, by go_num, by rw [HP.out, HM.out]⟩
      case measure => simp [intOf]; omega
    · have HK := Lib.hid (show L.take k = L from List.take_of_length_le (by rw [Hn.out]; omega))
      go_wp2
      go_ret
      exact ⟨ret_int (by rw [HK.out]), rfl⟩

def peakR (L : List Int) : Int × Int := if vs L then (peakL L, 0) else (0, 1)

set_option maxHeartbeats 1000000 in
theorem iPeakOf_any (A : Option Addr) (n c : Nat) (L : List Int) (w : World) (hr : Rd w A 1 iv L) (hn : L.length = n) (hb : n ≤ 4194304) :
    Calls Tryd.prog 7 #[.slice A n c] w fun e w' => e = .returned (.tuple #[.int .i64 (peakR L).1, .int .i64 (peakR L).2]) ∧ w = w' := by
  cases hv : vs L
  · have HD := Lib.hid (show peakR L = (0, 1) by simp [peakR, hv])
    go_enter Tryd.func7, Tryd.ntmps7
    go_wp2_with (go_at_call 21; refine (validSamples_any _ _ _ L _ hr hn hb).mono ?_; rintro e w' ⟨rfl, rfl⟩)
    go_ret2
    exact ⟨ret_ii HD.out, rfl⟩
  · have HD := Lib.hid (show peakR L = (peakL L, 0) by simp [peakR, hv])
    have ha := vs_all hv
    go_enter Tryd.func7, Tryd.ntmps7
    go_wp2_with (first | (go_at_call 21; refine (validSamples_any _ _ _ L _ hr hn hb).mono ?_; rintro e w' ⟨rfl, rfl⟩) | (go_at_call 26; refine (peakOf_any _ _ _ L _ hr hn (by omega) ha.2).mono ?_; rintro e w' ⟨rfl, rfl⟩))
    go_ret2
    exact ⟨ret_ii HD.out, rfl⟩
end Go.Proofs.YtmcddcdhppomkaaDoor
