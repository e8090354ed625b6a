/-
  Walks: samples: valid ones, their peak; the law of PeakOf.
-/
import Derived.Test.YtnnhffehboknnaaInts
import Derived.Test.YtnnhffehboknnaaNear
import Derived.Test.YtnnhffehboknnaaExt
namespace Go.Proofs.Ytnnhffehboknnaa
open Go.RowKit

def okS (x : Int) : Bool := inB x (-32767) 32767
def vs (L : List Int) : Bool := decide (L.length ≤ 64) && L.all okS
def peakL (L : List Int) : Int := L.foldl (fun m x => max m (absI x)) 0
theorem peakL_snoc (L : List Int) (x : Int) : peakL (L ++ [x]) = max (peakL L) (absI x) := by unfold peakL; simp
theorem vs_len {L : List Int} (h : L.length ≤ 64) (ha : L.all okS = true) : vs L = true := by unfold vs; simp [h, ha]
theorem vs_long {L : List Int} (h : 64 < L.length) : vs L = false := by unfold vs; simp; omega
theorem vs_bad {L : List Int} (ha : L.all okS = false) : vs L = false := by unfold vs; rw [ha]; simp
theorem vs_all {L : List Int} (h : vs L = true) : L.length ≤ 64 ∧ L.all okS = true := by unfold vs at h; simpa using h
theorem okS_bd {x : Int} (h : okS x = true) : -32767 ≤ x ∧ x ≤ 32767 := inB_iff.1 h
theorem vs_at {L : List Int} (h : vs L = true) {k : Nat} {x : Int} (hx : L[k]? = some x) : -32767 ≤ x ∧ x ≤ 32767 := okS_bd (all_at (vs_all h).2 hx)
theorem peakL_bd {L : List Int} (h : L.all okS = true) : 0 ≤ peakL L ∧ peakL L ≤ 32767 := by
  have : ∀ (L : List Int) (m : Int), 0 ≤ m → m ≤ 32767 → L.all okS = true → 0 ≤ L.foldl (fun m x => max m (absI x)) m ∧ L.foldl (fun m x => max m (absI x)) m ≤ 32767 := by
    intro L
    induction L with
    | nil => intro m h0 h1 _; exact ⟨h0, h1⟩
    | cons y L ih =>
      intro m h0 h1 h
      simp only [List.all_cons, Bool.and_eq_true] at h
      have := absI_bd (okS_bd h.1)
      exact ih _ (by show 0 ≤ max _ _; omega) (by show max _ _ ≤ (32767 : Int); omega) h.2
  exact this L 0 (by omega) (by omega) h
theorem all_take {p : Int → Bool} {L : List Int} (h : L.all p = true) (k : Nat) : (L.take k).all p = true := by
  rw [List.all_eq_true] at h ⊢
  exact fun x hx => h x (List.mem_of_mem_take hx)

set_option maxHeartbeats 400000 in
theorem l02Abs_any (n : Int) (hn : -9223372036854775807 ≤ n) (w : World) :
    Calls Try.prog 65 #[.int .i64 n] w fun e w' => e = .returned (.int .i64 (absI n)) ∧ w = w' := by
  by_cases hz : n < 0
  · have H := Lib.hid (absI_neg hz)
    go_enter Try.func65, Try.ntmps65
    go_wp2
    go_ret
    exact ⟨ret_int H.out.symm, rfl⟩
  · have H := Lib.hid (absI_pos (n := n) (by omega))
    go_enter Try.func65, Try.ntmps65
    go_wp2
    go_ret
    exact ⟨ret_int H.out.symm, rfl⟩

set_option maxHeartbeats 1000000 in
theorem validSamples_any (A : Option Addr) (n c : Nat) (L : List Int) (w : World) (hr : Rd w A 1 iv L) (hn : L.length = n) (hb : n ≤ 4194304) :
    Calls Try.prog 51 #[.slice A n c] w fun e w' => e = .returned (.bool (vs L)) ∧ w = w' := by
  have Hn := Lib.hid hn
  have HR := Lib.hid hr
  clear hr
  by_cases h64 : n ≤ 64
  · clear hn
    go_enter Try.func51, Try.ntmps51
    go_wp2
    go_loop [10] (fun i => ∃ k : Nat, k ≤ n ∧ i = .int .i64 k ∧ (L.take k).all okS = true) (fun i => n - (intOf i).toNat)
    case atStart => exact ⟨0, Nat.zero_le _, rfl, by simp⟩
    case round =>
      obtain ⟨k, hk, rfl, ha⟩ := hrel
      have HA := Lib.hid ha
      clear ha
      by_cases hlt : k < n
      · obtain ⟨b, o, x, rfl, hx, hc⟩ := HR.out.int (k := k) (by rw [Hn.out]; exact hlt)
        have HX := Lib.hid hx
        clear hx
        cases hv : inB x (-32767) 32767
        · go_wp2_with (go_at_call 45; refine (within_any _ _ _ _).mono ?_; rintro e w' ⟨rfl, rfl⟩)
          go_ret
          exact ⟨ret_bool (vs_bad (all_false HX.out hv)).symm, rfl⟩
        · go_wp2_with (go_at_call 45; refine (within_any _ _ _ _).mono ?_; rintro e w' ⟨rfl, rfl⟩)
          go_round
          case rel => exact ⟨k + 1, by omega, by go_num, all_snoc HX.out HA.out hv⟩
          case measure => simp [intOf]; omega
      · go_wp2
        go_ret
        exact ⟨ret_bool (vs_len (by rw [Hn.out]; exact h64) (all_take_all (by rw [Hn.out]; omega) HA.out)).symm, rfl⟩
  · have HV := Lib.hid (vs_long (L := L) (by omega))
    clear hn
    go_enter Try.func51, Try.ntmps51
    go_wp2
    go_ret
    exact ⟨ret_bool HV.out.symm, rfl⟩

set_option maxHeartbeats 1000000 in
theorem l19Samples_any (A : Option Addr) (n c : Nat) (L : List Int) (w : World) (hr : Rd w A 1 iv L) (hn : L.length = n) (hb : n ≤ 4194304) :
    Calls Try.prog 49 #[.slice A n c] w fun e w' => e = .returned (.bool (vs L)) ∧ w = w' := by
  have Hn := Lib.hid hn
  have HR := Lib.hid hr
  clear hr hn
  go_enter Try.func49, Try.ntmps49
  go_wp2
  go_loop [3] (fun i => ∃ k : Nat, k ≤ n ∧ i = .int .i64 k ∧ (L.take k).all okS = true) (fun i => n - (intOf i).toNat)
  case atStart => exact ⟨0, Nat.zero_le _, rfl, by simp⟩
  case round =>
    obtain ⟨k, hk, rfl, ha⟩ := hrel
    have HA := Lib.hid ha
    clear ha
    by_cases hlt : k < n
    · obtain ⟨b, o, x, rfl, hx, hc⟩ := HR.out.int (k := k) (by rw [Hn.out]; exact hlt)
      have HX := Lib.hid hx
      clear hx
      cases hv : inB x (-32767) 32767
      · go_wp2_with (go_at_call 42; refine (l00In_any _ _ _ _).mono ?_; rintro e w' ⟨rfl, rfl⟩)
        go_ret
        exact ⟨ret_bool (vs_bad (all_false HX.out hv)).symm, rfl⟩
      · go_wp2_with (go_at_call 42; refine (l00In_any _ _ _ _).mono ?_; rintro e w' ⟨rfl, rfl⟩)
        go_round
        case rel => exact ⟨k + 1, by omega, by go_num, all_snoc HX.out HA.out hv⟩
        case measure => simp [intOf]; omega
    · go_wp2
      go_ret
      refine ⟨ret_bool ?_, rfl⟩
      have ha := all_take_all (by rw [Hn.out]; omega) HA.out
      unfold vs
      rw [ha, Hn.out]
      simp
      omega

set_option maxHeartbeats 1000000 in
theorem peakOf_any (A : Option Addr) (n c : Nat) (L : List Int) (w : World) (hr : Rd w A 1 iv L) (hn : L.length = n) (hb : n ≤ 64) (hv : L.all okS = true) :
    Calls Try.prog 52 #[.slice A n c] w fun e w' => e = .returned (.int .i64 (peakL L)) ∧ w = w' := by
  have Hn := Lib.hid hn
  have HR := Lib.hid hr
  have HV := Lib.hid hv
  clear hr hn hv
  go_enter Try.func52, Try.ntmps52
  go_wp2
  go_loop [8, 3] (fun i m => ∃ k : Nat, k ≤ n ∧ i = .int .i64 k ∧ m = .int .i64 (peakL (L.take k))) (fun i _ => n - (intOf i).toNat)
  case atStart => exact ⟨0, Nat.zero_le _, rfl, by simp [peakL]⟩
  case round =>
    obtain ⟨k, hk, rfl, rfl⟩ := hrel
    by_cases hlt : k < n
    · obtain ⟨b, o, x, rfl, hx, hc⟩ := HR.out.int (k := k) (by rw [Hn.out]; exact hlt)
      have HP := Lib.hid (show peakL (L.take (k + 1)) = max (peakL (L.take k)) (absI x) by rw [take_snoc hx, peakL_snoc])
      have hxb := okS_bd (all_at HV.out hx)
      clear hx
      obtain ⟨m, HM⟩ : ∃ m, Hid (peakL (L.take k) = m) := ⟨_, rfl⟩
      rw [HM.out]
      go_wp2_with (go_at_call 63; refine (absOf_any _ (by omega) _).mono ?_; rintro e w' ⟨rfl, rfl⟩)
      go_round
      case rel => exact ⟨k + 1, by omega, by go_num, by rw [HP.out, HM.out]⟩
      case measure => simp [intOf]; omega
    · have HK := Lib.hid (show L.take k = L from List.take_of_length_le (by rw [Hn.out]; omega))
      go_wp2
      go_ret
      exact ⟨ret_int (by rw [HK.out]), rfl⟩

set_option maxHeartbeats 1000000 in
theorem l19Peak_any (A : Option Addr) (n c : Nat) (L : List Int) (w : World) (hr : Rd w A 1 iv L) (hn : L.length = n) (hb : n ≤ 64) (hv : L.all okS = true) :
    Calls Try.prog 50 #[.slice A n c] w fun e w' => e = .returned (.int .i64 (peakL L)) ∧ w = w' := by
  have Hn := Lib.hid hn
  have HR := Lib.hid hr
  have HV := Lib.hid hv
  clear hr hn hv
  go_enter Try.func50, Try.ntmps50
  go_wp2
  go_loop [4, 3] (fun i m => ∃ k : Nat, k ≤ n ∧ i = .int .i64 k ∧ m = .int .i64 (peakL (L.take k))) (fun i _ => n - (intOf i).toNat)
  case atStart => exact ⟨0, Nat.zero_le _, rfl, by simp [peakL]⟩
  case round =>
    obtain ⟨k, hk, rfl, rfl⟩ := hrel
    by_cases hlt : k < n
    · obtain ⟨b, o, x, rfl, hx, hc⟩ := HR.out.int (k := k) (by rw [Hn.out]; exact hlt)
      have HP := Lib.hid (show peakL (L.take (k + 1)) = max (peakL (L.take k)) (absI x) by rw [take_snoc hx, peakL_snoc])
      have hxb := okS_bd (all_at HV.out hx)
      clear hx
      obtain ⟨m, HM⟩ : ∃ m, Hid (peakL (L.take k) = m) := ⟨_, rfl⟩
      rw [HM.out]
      go_wp2_with (first | (go_at_call 65; refine (l02Abs_any _ (by omega) _).mono ?_; rintro e w' ⟨rfl, rfl⟩) | (go_at_call 64; refine (l00Max_any _ _ _).mono ?_; rintro e w' ⟨rfl, rfl⟩))
      go_round
      case rel => exact ⟨k + 1, by omega, by go_num, by rw [HP.out, HM.out]⟩
      case measure => simp [intOf]; omega
    · have HK := Lib.hid (show L.take k = L from List.take_of_length_le (by rw [Hn.out]; omega))
      go_wp2
      go_ret
      exact ⟨ret_int (by rw [HK.out]), rfl⟩

def peakR (L : List Int) : Int × Int := if vs L then (peakL L, 0) else (0, 1)

set_option maxHeartbeats 1000000 in
theorem iPeakOf_any (A : Option Addr) (n c : Nat) (L : List Int) (w : World) (hr : Rd w A 1 iv L) (hn : L.length = n) (hb : n ≤ 4194304) :
    Calls Try.prog 20 #[.slice A n c] w fun e w' => e = .returned (.tuple #[.int .i64 (peakR L).1, .int .i64 (peakR L).2]) ∧ w = w' := by
  cases hv : vs L
  · have HD := Lib.hid (show peakR L = (0, 1) by simp [peakR, hv])
    go_enter Try.func20, Try.ntmps20
    go_wp2_with (go_at_call 51; refine (validSamples_any _ _ _ L _ hr hn hb).mono ?_; rintro e w' ⟨rfl, rfl⟩)
    go_ret2
    exact ⟨ret_ii HD.out, rfl⟩
  · have HD := Lib.hid (show peakR L = (peakL L, 0) by simp [peakR, hv])
    have ha := vs_all hv
    go_enter Try.func20, Try.ntmps20
    go_wp2_with (first | (go_at_call 51; refine (validSamples_any _ _ _ L _ hr hn hb).mono ?_; rintro e w' ⟨rfl, rfl⟩) | (go_at_call 52; refine (peakOf_any _ _ _ L _ hr hn (by omega) ha.2).mono ?_; rintro e w' ⟨rfl, rfl⟩))
    go_ret2
    exact ⟨ret_ii HD.out, rfl⟩
set_option maxHeartbeats 1000000 in
theorem sPeakOf_any (A : Option Addr) (n c : Nat) (L : List Int) (w : World) (hr : Rd w A 1 iv L) (hn : L.length = n) (hb : n ≤ 4194304) :
    Calls Try.prog 18 #[.slice A n c] w fun e w' => e = .returned (.tuple #[.int .i64 (peakR L).1, .int .i64 (peakR L).2]) ∧ w = w' := by
  cases hv : vs L
  · have HD := Lib.hid (show peakR L = (0, 1) by simp [peakR, hv])
    go_enter Try.func18, Try.ntmps18
    go_wp2_with (go_at_call 49; refine (l19Samples_any _ _ _ L _ hr hn hb).mono ?_; rintro e w' ⟨rfl, rfl⟩)
    go_ret2
    exact ⟨ret_ii HD.out, rfl⟩
  · have HD := Lib.hid (show peakR L = (peakL L, 0) by simp [peakR, hv])
    have ha := vs_all hv
    go_enter Try.func18, Try.ntmps18
    go_wp2_with (first | (go_at_call 49; refine (l19Samples_any _ _ _ L _ hr hn hb).mono ?_; rintro e w' ⟨rfl, rfl⟩) | (go_at_call 50; refine (l19Peak_any _ _ _ L _ hr hn (by omega) ha.2).mono ?_; rintro e w' ⟨rfl, rfl⟩))
    go_ret2
    exact ⟨ret_ii HD.out, rfl⟩

set_option maxHeartbeats 1000000 in
theorem lawPeakOf (A : Option Addr) (n c : Nat) (zs : List Int) (w : World) (h : IsRow .i64 w A n c zs) :
    Calls Try.prog 6 #[.slice A n c] w fun e w' => e = .returned (.bool true) ∧ Below w.heap.size w w' := by
  obtain ⟨hm, hn, hr⟩ := rd_of_isRow h
  clear h
  obtain ⟨L, hL⟩ : ∃ L, L = zs.take n := ⟨_, rfl⟩
  rw [← hL] at hn hr
  clear hL
  unfold maxLen at hm
  by_cases hbig : n ≤ 1048576
  · have Hn := Lib.hid hn
    have HR := Lib.hid hr
    clear hn hr
    obtain ⟨x, HX⟩ : ∃ x, Hid (peakR L = x) := ⟨_, rfl⟩
    go_enter Try.func6, Try.ntmps6
    go_wp2_with fail
    refine (toInt64S_any A n c L _ HR.out Hn.out hbig).mono ?_
    rintro e w1 ⟨g1, rfl, hg1, hl1, G1, O1⟩
    have R1 := Lib.hid (rd_ints O1)
    have HG1 := Lib.hid G1
    clear O1 G1
    go_wp2_with fail
    refine (sPeakOf_any _ n n L _ R1.out Hn.out (by omega)).mono ?_
    rintro e w' ⟨rfl, rfl⟩
    rw [HX.out]
    go_wp2_with fail
    refine (toInt64S_any A n c L _ (HR.out.G HG1.out) Hn.out hbig).mono ?_
    rintro e w2 ⟨g2, rfl, hg2, hl2, G2, O2⟩
    have R2 := Lib.hid (rd_ints O2)
    have HG2 := Lib.hid (HG1.out.trans G2)
    clear O2 G2
    go_wp2_with fail
    refine (iPeakOf_any _ n n L _ R2.out Hn.out (by omega)).mono ?_
    rintro e w' ⟨rfl, rfl⟩
    rw [HX.out]
    go_wp2_with fail
    refine (toInt64S_any A n c L _ (HR.out.G HG2.out) Hn.out hbig).mono ?_
    rintro e w3 ⟨g3, rfl, hg3, hl3, G3, O3⟩
    have R3 := Lib.hid (rd_ints O3)
    have HG3 := Lib.hid (HG2.out.trans G3)
    have R4 := Lib.hid (R2.out.G G3)
    clear O3 G3
    go_wp2_with fail
    refine (eqInt64S_same _ _ n n n L _ R4.out R3.out Hn.out (by omega)).mono ?_
    rintro e w' ⟨rfl, m, rfl⟩
    go_wp2
    go_ret
    exact ⟨rfl, HG3.out.drewN _⟩
  · clear hn hr
    go_enter Try.func6, Try.ntmps6
    go_wp2
    go_ret
    exact ⟨rfl, Below.refl _ _⟩
end Go.Proofs.Ytnnhffehboknnaa
