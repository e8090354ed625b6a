/-
  Walks: samples: valid ones, their peak; the law of PeakOf.
-/
import Derived.Test.YtnnhffehboknnaaDoorInts
import Derived.Test.YtnnhffehboknnaaDoorNear
import Derived.Test.YtnnhffehboknnaaDoorExt
namespace Go.Proofs.YtnnhffehboknnaaDoor
open Go.RowKit
def okS (x : Int) : Bool := inB x (-32767) 32767
def vs (L : List Int) : Bool := decide (L.length ≤ 64) && L.all okS
def peakL (L : List Int) : Int := L.foldl (fun m x => max m (absI x)) 0
theorem peakL_snoc (L : List Int) (x : Int) : peakL (L ++ [x]) = max (peakL L) (absI x) := by unfold peakL; simp
theorem vs_len {L : List Int} (h : L.length ≤ 64) (ha : L.all okS = true) : vs L = true := by unfold vs; simp [h, ha]
theorem vs_long {L : List Int} (h : 64 < L.length) : vs L = false := by unfold vs; simp; omega
theorem vs_bad {L : List Int} (ha : L.all okS = false) : vs L = false := by unfold vs; rw [ha]; simp
theorem vs_all {L : List Int} (h : vs L = true) : L.length ≤ 64 ∧ L.all okS = true := by unfold vs at h; simpa using h
theorem okS_bd {x : Int} (h : okS x = true) : -32767 ≤ x ∧ x ≤ 32767 := inB_iff.1 h
theorem vs_at {L : List Int} (h : vs L = true) {k : Nat} {x : Int} (hx : L[k]? = some x) : -32767 ≤ x ∧ x ≤ 32767 := okS_bd (all_at (vs_all h).2 hx)
theorem peakL_bd {L : List Int} (h : L.all okS = true) : 0 ≤ peakL L ∧ peakL L ≤ 32767 := by
  have : ∀ (L : List Int) (m : Int), 0 ≤ m → m ≤ 32767 → L.all okS = true → 0 ≤ L.foldl (fun m x => max m (absI x)) m ∧ L.foldl (fun m x => max m (absI x)) m ≤ 32767 := by
    intro L
    induction L with
    | nil => intro m h0 h1 _; exact ⟨h0, h1⟩
    | cons y L ih =>
      intro m h0 h1 h
      simp only [List.all_cons, Bool.and_eq_true] at h
      have := absI_bd (okS_bd h.1)
      exact ih _ (by show 0 ≤ max _ _; omega) (by show max _ _ ≤ (32767 : Int); omega) h.2
  exact this L 0 (by omega) (by omega) h
theorem all_take {p : Int → Bool} {L : List Int} (h : L.all p = true) (k : Nat) : (L.take k).all p = true := by
  rw [List.all_eq_true] at h ⊢
  exact fun x hx => h x (List.mem_of_mem_take hx)

set_option maxHeartbeats 1000000 in
theorem validSamples_any (A : Option Addr) (n c : Nat) (L : List Int) (w : World) (hr : Rd w A 1 iv L) (hn : L.length = n) (hb : n ≤ 4194304) :
    Calls Tryd.prog 45 #[.slice A n c] w fun e w' => e = .returned (.bool (vs L)) ∧ w = w' := by
  have Hn := Lib.hid hn
  have HR := Lib.hid hr
  clear hr
  by_cases h64 : n ≤ 64
  · clear hn
    go_enter Tryd.func45, Tryd.ntmps45
    go_wp2
    go_loop [10] (fun i => ∃ k : Nat, k ≤ n ∧ i = .int .i64 k ∧ (L.take k).all okS = true) (fun i => n - (intOf i).toNat)
    case atStart => exact ⟨0, Nat.zero_le _, rfl, by simp⟩
    case round =>
      obtain ⟨k, hk, rfl, ha⟩ := hrel
      have HA := Lib.hid ha
      clear ha
      by_cases hlt : k < n
      · obtain ⟨b, o, x, rfl, hx, hc⟩ := HR.out.int (k := k) (by rw [Hn.out]; exact hlt)
        have HX := Lib.hid hx
        clear hx
        cases hv : inB x (-32767) 32767
        · go_wp2_with (go_at_call 29; refine (within_any _ _ _ _).mono ?_; rintro e w' ⟨rfl, rfl⟩)
          go_ret
          exact ⟨ret_bool (vs_bad (all_false HX.out hv)).symm, rfl⟩
        · go_wp2_with (go_at_call 29; refine (within_any _ _ _ _).mono ?_; rintro e w' ⟨rfl, rfl⟩)
          go_round
          case rel => exact ⟨k + 1, by omega, by go_num, all_snoc HX.out HA.out hv⟩
          case measure => simp [intOf]; omega
      · go_wp2
        go_ret
        exact ⟨ret_bool (vs_len (by rw [Hn.out]; exact h64) (all_take_all (by rw [Hn.out]; omega) HA.out)).symm, rfl⟩
  · have HV := Lib.hid (vs_long (L := L) (by omega))
    clear hn
    go_enter Tryd.func45, Tryd.ntmps45
    go_wp2
    go_ret
    exact ⟨ret_bool HV.out.symm, rfl⟩

set_option maxHeartbeats 1000000 in
theorem l19Samples_any (A : Option Addr) (n c : Nat) (L : List Int) (w : World) (hr : Rd w A 1 iv L) (hn : L.length = n) (hb : n ≤ 4194304) :
    Calls Tryd.prog 38 #[.slice A n c] w fun e w' => e = .returned (.bool (vs L)) ∧ w = w' := by
  have Hn := Lib.hid hn
  have HR := Lib.hid hr
  clear hr hn
  go_enter Tryd.func38, Tryd.ntmps38
  go_wp2
  go_loop [3] (fun i => ∃ k : Nat, k ≤ n ∧ i = .int .i64 k ∧ (L.take k).all okS = true) (fun i => n - (intOf i).toNat)
  case atStart => exact ⟨0, Nat.zero_le _, rfl, by simp⟩
  case round =>
    obtain ⟨k, hk, rfl, ha⟩ := hrel
    have HA := Lib.hid ha
    clear ha
    by_cases hlt : k < n
    · obtain ⟨b, o, x, rfl, hx, hc⟩ := HR.out.int (k := k) (by rw [Hn.out]; exact hlt)
      have HX := Lib.hid hx
      clear hx
      cases hv : inB x (-32767) 32767
      · go_wp2_with (go_at_call 33; refine (l00In_any _ _ _ _).mono ?_; rintro e w' ⟨rfl, rfl⟩)
        go_ret
        exact ⟨ret_bool (vs_bad (all_false HX.out hv)).symm, rfl⟩
      · go_wp2_with (go_at_call 33; refine (l00In_any _ _ _ _).mono ?_; rintro e w' ⟨rfl, rfl⟩)
        go_round
        case rel => exact ⟨k + 1, by omega, by go_num, all_snoc HX.out HA.out hv⟩
        case measure => simp [intOf]; omega
    · go_wp2
      go_ret
      refine ⟨ret_bool ?_, rfl⟩
      have ha := all_take_all (by rw [Hn.out]; omega) HA.out
      unfold vs
      rw [ha, Hn.out]
      simp
      omega

def peakR (L : List Int) : Int × Int := if vs L then (peakL L, 0) else (0, 1)

end Go.Proofs.YtnnhffehboknnaaDoor
