/-
  Walks: valid skips, by both texts.
-/
import Derived.Test.YtfdghdnnjhilgaaStSkip
import Derived.Test.YtfdghdnnjhilgaaChk
import Derived.Test.YtfdghdnnjhilgaaValidHolds
namespace Go.Proofs.Ytfdghdnnjhilgaa
open Go.RowKit

def vkB (x : SSkip) : Bool := decide (0 ≤ x.From) && inB x.Length 1 1800000 && decide (x.From + x.Length ≤ 7200000) && inB x.Loss 0 1000
def ltK (a b : SSkip) : Bool := decide (a.From + a.Length ≤ b.From)
def vks (L : List SSkip) : Bool := decide (L.length ≤ 12) && chk vkB ltK L
theorem vkB_bd {x : SSkip} (h : vkB x = true) : 0 ≤ x.From ∧ x.From ≤ 7200000 ∧ 1 ≤ x.Length ∧ x.Length ≤ 1800000 ∧ x.From + x.Length ≤ 7200000 ∧ 0 ≤ x.Loss ∧ x.Loss ≤ 1000 := by
  simp only [vkB, Bool.and_eq_true, inB_iff, decide_eq_true_eq] at h
  omega
theorem vkB_from {x : SSkip} (h : ¬ 0 ≤ x.From) : vkB x = false := by simp [vkB, h]
theorem vkB_len {x : SSkip} (h : inB x.Length 1 1800000 = false) : vkB x = false := by simp [vkB, h]
theorem vkB_end {x : SSkip} (h : ¬ x.From + x.Length ≤ 7200000) : vkB x = false := by simp [vkB, h]
theorem vkB_loss {x : SSkip} (h : inB x.Loss 0 1000 = false) : vkB x = false := by simp [vkB, h]
theorem vkB_ok {x : SSkip} (h1 : 0 ≤ x.From) (h2 : inB x.Length 1 1800000 = true) (h3 : x.From + x.Length ≤ 7200000) (h4 : inB x.Loss 0 1000 = true) : vkB x = true := by simp [vkB, h1, h2, h3, h4]
theorem vkB_time {x : SSkip} (h : inB x.From 0 7200000 = false) : vkB x = false := by
  cases hv : vkB x
  · rfl
  · have := vkB_bd hv
    have := inB_not.1 h
    omega
theorem vks_bad {L : List SSkip} {k : Nat} {x : SSkip} (hx : L[k]? = some x) (h : vkB x = false) : vks L = false := by unfold vks; rw [chk_bad hx h]; simp
theorem vks_rel {L : List SSkip} {j : Nat} {x y : SSkip} (hx : L[j + 1]? = some x) (hy : L[j]? = some y) (h : ltK y x = false) : vks L = false := by unfold vks; rw [chk_bad_rel hx hy h]; simp
theorem vks_len {L : List SSkip} (h : vks L = true) : L.length ≤ 12 := by simp only [vks, Bool.and_eq_true, decide_eq_true_eq] at h; exact h.1
theorem vks_at {L : List SSkip} (h : vks L = true) {k : Nat} {x : SSkip} (hx : L[k]? = some x) : 0 ≤ x.From ∧ x.From ≤ 7200000 ∧ 1 ≤ x.Length ∧ x.Length ≤ 1800000 ∧ x.From + x.Length ≤ 7200000 ∧ 0 ≤ x.Loss ∧ x.Loss ≤ 1000 := by
  simp only [vks, Bool.and_eq_true] at h
  exact vkB_bd (chk_all h.2 hx)

set_option maxRecDepth 20000 in
set_option maxHeartbeats 4000000 in
theorem ValidSkips_any (A : Option Addr) (n c : Nat) (L : List SSkip) (w : World) (hr : Rd w A 3 cSkip L) (hn : L.length = n) (hb : n ≤ 4194304) :
    Calls Try.prog 22 #[.slice A n c] w fun e w' => e = .returned (.bool (vks L)) ∧ G w w' := by
  have Hn := Lib.hid hn
  have HR := Lib.hid hr
  clear hr hn
  by_cases hlim : n ≤ 12
  case neg =>
    have H := Lib.hid (show vks L = false by unfold vks; rw [Hn.out, decide_eq_false hlim]; simp)
    go_enter Try.func22, Try.ntmps22
    go_wp2
    go_ret
    exact ⟨ret_bool H.out.symm, G.refl _⟩
  go_enter Try.func22, Try.ntmps22
  go_wp2
  go_loopw [10] (fun i wr => ∃ (k : Nat), k ≤ n ∧ i = .int .i64 k ∧ (List.range k).all (okAt vkB ltK L) = true ∧ G w wr) (fun i _ => n - (intOf i).toNat)
  case atStart => exact ⟨0, Nat.zero_le _, rfl, rfl, G.refl _⟩
  case round =>
    obtain ⟨k, hk, rfl, ha, hg⟩ := hrel
    have HA := Lib.hid ha
    have G0 := Lib.hid hg
    clear ha hg
    by_cases hlt : k < n
    · obtain ⟨b, o, x, rfl, hx, hc0, hc1, hc2⟩ := (HR.out.G G0.out).Skip (k := k) (by rw [Hn.out]; exact hlt)
      have HX := Lib.hid hx
      clear hx
      have hlt2 : (k : Int) < (n : Int) := by omega
      have hk0 : 0 ≤ (k : Int) := by omega
      by_cases q1 : 0 ≤ x.From
      case neg =>
        have H := Lib.hid (vks_bad HX.out (vkB_from q1))
        go_wp2_with (go_at_call 56; refine (within_any _ _ _ _).mono ?_; rintro e w' ⟨rfl, rfl⟩)
        go_ret
        exact ⟨ret_bool H.out.symm, G0.out.alloc _⟩
      cases q2 : inB x.Length 1 1800000
      · have H := Lib.hid (vks_bad HX.out (vkB_len q2))
        go_wp2_with (go_at_call 56; refine (within_any _ _ _ _).mono ?_; rintro e w' ⟨rfl, rfl⟩)
        go_ret
        exact ⟨ret_bool H.out.symm, G0.out.alloc _⟩
      have b2 := inB_iff.1 q2
      by_cases q3 : x.From + x.Length ≤ 7200000
      case neg =>
        have H := Lib.hid (vks_bad HX.out (vkB_end q3))
        go_wp2_with (go_at_call 56; refine (within_any _ _ _ _).mono ?_; rintro e w' ⟨rfl, rfl⟩)
        go_ret
        exact ⟨ret_bool H.out.symm, G0.out.alloc _⟩
      cases q4 : inB x.Loss 0 1000
      · have H := Lib.hid (vks_bad HX.out (vkB_loss q4))
        go_wp2_with (go_at_call 56; refine (within_any _ _ _ _).mono ?_; rintro e w' ⟨rfl, rfl⟩)
        go_ret
        exact ⟨ret_bool H.out.symm, G0.out.alloc _⟩
      have HV := Lib.hid (vkB_ok (x := x) (by omega) q2 q3 q4)
      cases k with
      | zero =>
        simp only [Nat.zero_mul, Nat.add_zero] at hc0 hc1 hc2
        go_wp2_with (go_at_call 56; refine (within_any _ _ _ _).mono ?_; rintro e w' ⟨rfl, rfl⟩)
        refine region_quiet_G (by kernel_rfl) (by kernel_rfl) ?_; (repeat (go_big_quiet_step ((fail)))); refine wpQuiet_nil ?_
        intro w2 hg2
        have G1 := Lib.hid ((G0.out.alloc _).trans hg2)
        clear hg2 hc0 hc1 hc2
        go_wp2
        go_roundw
        case rel => exact ⟨1, by omega, rfl, chk_step HA.out (okAt_first HX.out HV.out), G1.out⟩
        case measure => simp [intOf]; omega
      | succ j =>
        obtain ⟨b', o', y, hA', hy, hd0, hd1, _⟩ := (HR.out.G G0.out).Skip (k := j) (by rw [Hn.out]; omega)
        obtain ⟨rfl, rfl⟩ : b = b' ∧ o = o' := by simpa using hA'
        have HY := Lib.hid hy
        have ga0 := cellR (w := wr.alloc (.cells #[.int .i64 x.From, .int .i64 x.Length, .int .i64 x.Loss] 77)) (a := ⟨wr.heap.size, 0, none⟩) (World.cell?_alloc_at _ _ _ _ rfl)
        have gd0 := cellR (w := wr.alloc (.cells #[.int .i64 x.From, .int .i64 x.Length, .int .i64 x.Loss] 77)) (((G.refl wr).alloc _).cell hd0)
        have gd1 := cellR (w := wr.alloc (.cells #[.int .i64 x.From, .int .i64 x.Length, .int .i64 x.Loss] 77)) (((G.refl wr).alloc _).cell hd1)
        have hyb : vkB y = true := by
          have ho := List.all_eq_true.1 HA.out j (by simp)
          unfold okAt at ho
          rw [hy] at ho
          simp only [Bool.and_eq_true] at ho
          exact ho.1
        have hyb2 := vkB_bd hyb
        have hyw : IntKind.i64.wrap (y.From + y.Length) = y.From + y.Length := IntWalk.i64_in _ (by omega)
        clear hy hA' hd0 hd1 hyb
        cases hl : ltK y x
        · have H := Lib.hid (vks_rel HX.out HY.out hl)
          have hl2 : x.From < y.From + y.Length := by simpa [ltK] using hl
          clear hl
          go_wp2_with (go_at_call 56; refine (within_any _ _ _ _).mono ?_; rintro e w' ⟨rfl, rfl⟩)
          refine region_quiet_G (by kernel_rfl) (by kernel_rfl) ?_; (repeat (go_big_quiet_step ((fail)))); refine wpQuiet_nil ?_
          intro w2 hg2
          clear ga0 gd0 gd1 hyw
          go_wp2
          go_ret
          exact ⟨ret_bool H.out.symm, (G0.out.alloc _).trans hg2⟩
        · have HL := Lib.hid hl
          have hl2 : y.From + y.Length ≤ x.From := by simpa [ltK] using hl
          clear hl
          go_wp2_with (go_at_call 56; refine (within_any _ _ _ _).mono ?_; rintro e w' ⟨rfl, rfl⟩)
          refine region_quiet_G (by kernel_rfl) (by kernel_rfl) ?_; (repeat (go_big_quiet_step ((fail)))); refine wpQuiet_nil ?_
          intro w2 hg2
          have G1 := Lib.hid ((G0.out.alloc _).trans hg2)
          clear ga0 gd0 gd1 hyw hg2
          go_wp2
          go_roundw
          case rel => exact ⟨j + 1 + 1, by omega, by go_num, chk_step HA.out (okAt_next HX.out HY.out HV.out HL.out), G1.out⟩
          case measure => simp [intOf]; omega
    · have hkn : k = n := by omega
      have H := Lib.hid (show vks L = true by unfold vks; rw [chk_done HA.out (by rw [Hn.out]; exact hkn), Hn.out]; simp; omega)
      go_wp2
      go_ret
      exact ⟨ret_bool H.out.symm, G0.out⟩

set_option maxRecDepth 20000 in
set_option maxHeartbeats 4000000 in
theorem l18Skips_any (A : Option Addr) (n c : Nat) (L : List SSkip) (w : World) (hr : Rd w A 3 cSkip L) (hn : L.length = n) (hb : n ≤ 4194304) :
    Calls Try.prog 58 #[.slice A n c] w fun e w' => e = .returned (.bool (vks L)) ∧ G w w' := by
  have Hn := Lib.hid hn
  have HR := Lib.hid hr
  clear hr hn
  go_enter Try.func58, Try.ntmps58
  go_wp2
  go_loopw [3] (fun i wr => ∃ (k : Nat), k ≤ n ∧ i = .int .i64 k ∧ (List.range k).all (okAt vkB ltK L) = true ∧ G w wr) (fun i _ => n - (intOf i).toNat)
  case atStart => exact ⟨0, Nat.zero_le _, rfl, rfl, G.refl _⟩
  case round =>
    obtain ⟨k, hk, rfl, ha, hg⟩ := hrel
    have HA := Lib.hid ha
    have G0 := Lib.hid hg
    clear ha hg
    by_cases hlt : k < n
    · obtain ⟨b, o, x, rfl, hx, hc0, hc1, hc2⟩ := (HR.out.G G0.out).Skip (k := k) (by rw [Hn.out]; exact hlt)
      have HX := Lib.hid hx
      clear hx
      have hlt2 : (k : Int) < (n : Int) := by omega
      have hk0 : 0 ≤ (k : Int) := by omega
      cases q1 : inB x.From 0 7200000
      · have H := Lib.hid (vks_bad HX.out (vkB_time q1))
        go_wp2_with (first | (go_at_call 61; refine (l14Time_any _ _).mono ?_; rintro e w' ⟨rfl, rfl⟩) | (go_at_call 78; refine (l00In_any _ _ _ _).mono ?_; rintro e w' ⟨rfl, rfl⟩))
        go_ret
        exact ⟨ret_bool H.out.symm, G0.out.alloc _⟩
      have b1 := inB_iff.1 q1
      cases q2 : inB x.Length 1 1800000
      · have H := Lib.hid (vks_bad HX.out (vkB_len q2))
        go_wp2_with (first | (go_at_call 61; refine (l14Time_any _ _).mono ?_; rintro e w' ⟨rfl, rfl⟩) | (go_at_call 78; refine (l00In_any _ _ _ _).mono ?_; rintro e w' ⟨rfl, rfl⟩))
        go_ret
        exact ⟨ret_bool H.out.symm, G0.out.alloc _⟩
      have b2 := inB_iff.1 q2
      by_cases q3 : x.From + x.Length ≤ 7200000
      case neg =>
        have H := Lib.hid (vks_bad HX.out (vkB_end q3))
        go_wp2_with (first | (go_at_call 61; refine (l14Time_any _ _).mono ?_; rintro e w' ⟨rfl, rfl⟩) | (go_at_call 78; refine (l00In_any _ _ _ _).mono ?_; rintro e w' ⟨rfl, rfl⟩))
        go_ret
        exact ⟨ret_bool H.out.symm, G0.out.alloc _⟩
      cases q4 : inB x.Loss 0 1000
      · have H := Lib.hid (vks_bad HX.out (vkB_loss q4))
        go_wp2_with (first | (go_at_call 61; refine (l14Time_any _ _).mono ?_; rintro e w' ⟨rfl, rfl⟩) | (go_at_call 78; refine (l00In_any _ _ _ _).mono ?_; rintro e w' ⟨rfl, rfl⟩))
        go_ret
        exact ⟨ret_bool H.out.symm, G0.out.alloc _⟩
      have HV := Lib.hid (vkB_ok (x := x) (by omega) q2 q3 q4)
      cases k with
      | zero =>
        simp only [Nat.zero_mul, Nat.add_zero] at hc0 hc1 hc2
        go_wp2_with (first | (go_at_call 61; refine (l14Time_any _ _).mono ?_; rintro e w' ⟨rfl, rfl⟩) | (go_at_call 78; refine (l00In_any _ _ _ _).mono ?_; rintro e w' ⟨rfl, rfl⟩))
        refine region_quiet_G (by kernel_rfl) (by kernel_rfl) ?_; (repeat (go_big_quiet_step ((fail)))); refine wpQuiet_nil ?_
        intro w2 hg2
        have G1 := Lib.hid ((G0.out.alloc _).trans hg2)
        clear hg2 hc0 hc1 hc2
        go_wp2
        go_roundw
        case rel => exact ⟨1, by omega, rfl, chk_step HA.out (okAt_first HX.out HV.out), G1.out⟩
        case measure => simp [intOf]; omega
      | succ j =>
        obtain ⟨b', o', y, hA', hy, hd0, hd1, _⟩ := (HR.out.G G0.out).Skip (k := j) (by rw [Hn.out]; omega)
        obtain ⟨rfl, rfl⟩ : b = b' ∧ o = o' := by simpa using hA'
        have HY := Lib.hid hy
        have ga0 := cellR (w := wr.alloc (.cells #[.int .i64 x.From, .int .i64 x.Length, .int .i64 x.Loss] 77)) (a := ⟨wr.heap.size, 0, none⟩) (World.cell?_alloc_at _ _ _ _ rfl)
        have gd0 := cellR (w := wr.alloc (.cells #[.int .i64 x.From, .int .i64 x.Length, .int .i64 x.Loss] 77)) (((G.refl wr).alloc _).cell hd0)
        have gd1 := cellR (w := wr.alloc (.cells #[.int .i64 x.From, .int .i64 x.Length, .int .i64 x.Loss] 77)) (((G.refl wr).alloc _).cell hd1)
        have hyb : vkB y = true := by
          have ho := List.all_eq_true.1 HA.out j (by simp)
          unfold okAt at ho
          rw [hy] at ho
          simp only [Bool.and_eq_true] at ho
          exact ho.1
        have hyb2 := vkB_bd hyb
        have hyw : IntKind.i64.wrap (y.From + y.Length) = y.From + y.Length := IntWalk.i64_in _ (by omega)
        clear hy hA' hd0 hd1 hyb
        cases hl : ltK y x
        · have H := Lib.hid (vks_rel HX.out HY.out hl)
          have hl2 : x.From < y.From + y.Length := by simpa [ltK] using hl
          clear hl
          go_wp2_with (first | (go_at_call 61; refine (l14Time_any _ _).mono ?_; rintro e w' ⟨rfl, rfl⟩) | (go_at_call 78; refine (l00In_any _ _ _ _).mono ?_; rintro e w' ⟨rfl, rfl⟩))
          refine region_quiet_G (by kernel_rfl) (by kernel_rfl) ?_; (repeat (go_big_quiet_step ((fail)))); refine wpQuiet_nil ?_
          intro w2 hg2
          clear ga0 gd0 gd1 hyw
          go_wp2
          go_ret
          exact ⟨ret_bool H.out.symm, (G0.out.alloc _).trans hg2⟩
        · have HL := Lib.hid hl
          have hl2 : y.From + y.Length ≤ x.From := by simpa [ltK] using hl
          clear hl
          go_wp2_with (first | (go_at_call 61; refine (l14Time_any _ _).mono ?_; rintro e w' ⟨rfl, rfl⟩) | (go_at_call 78; refine (l00In_any _ _ _ _).mono ?_; rintro e w' ⟨rfl, rfl⟩))
          refine region_quiet_G (by kernel_rfl) (by kernel_rfl) ?_; (repeat (go_big_quiet_step ((fail)))); refine wpQuiet_nil ?_
          intro w2 hg2
          have G1 := Lib.hid ((G0.out.alloc _).trans hg2)
          clear ga0 gd0 gd1 hyw hg2
          go_wp2
          go_roundw
          case rel => exact ⟨j + 1 + 1, by omega, by go_num, chk_step HA.out (okAt_next HX.out HY.out HV.out HL.out), G1.out⟩
          case measure => simp [intOf]; omega
    · have hkn : k = n := by omega
      have H := Lib.hid (show vks L = decide (n ≤ 12) by unfold vks; rw [chk_done HA.out (by rw [Hn.out]; exact hkn), Hn.out]; simp)
      go_wp2
      go_ret
      exact ⟨ret_bool (by rw [H.out]; simp; omega), G0.out⟩

theorem iValidSkips_any (A : Option Addr) (n c : Nat) (L : List SSkip) (w : World) (hr : Rd w A 3 cSkip L) (hn : L.length = n) (hb : n ≤ 4194304) :
    Calls Try.prog 22 #[.slice A n c] w fun e w' => e = .returned (.bool (vks L)) ∧ G w w' := ValidSkips_any A n c L w hr hn hb
set_option maxHeartbeats 400000 in
theorem sValidSkips_any (A : Option Addr) (n c : Nat) (L : List SSkip) (w : World) (hr : Rd w A 3 cSkip L) (hn : L.length = n) (hb : n ≤ 4194304) :
    Calls Try.prog 20 #[.slice A n c] w fun e w' => e = .returned (.bool (vks L)) ∧ G w w' := by
  go_enter Try.func20, Try.ntmps20
  go_wp2_with (go_at_call 58; refine (l18Skips_any A n c L _ hr hn hb).mono ?_; rintro e w1 ⟨rfl, g1⟩)
  go_ret
  exact ⟨rfl, by assumption⟩
end Go.Proofs.Ytfdghdnnjhilgaa
