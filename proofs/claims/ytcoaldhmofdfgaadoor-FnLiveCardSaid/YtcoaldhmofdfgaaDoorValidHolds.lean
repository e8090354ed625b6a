/-
  Walks: valid holds, by both texts.
-/
import Derived.Test.YtcoaldhmofdfgaaDoorStHold
import Derived.Test.YtcoaldhmofdfgaaDoorChk
namespace Go.Proofs.YtcoaldhmofdfgaaDoor
open Go.RowKit

def vhB (x : SHold) : Bool := inB x.At 0 7200000 && inB x.Length 1 1800000
def ltH (a b : SHold) : Bool := decide (a.At < b.At)
def vhs (L : List SHold) : Bool := decide (L.length ≤ 16) && chk vhB ltH L
set_option maxHeartbeats 400000 in
theorem l14Time_any (n : Int) (w : World) :
    Calls Tryd.prog 60 #[.int .i64 n] w fun e w' => e = .returned (.bool (inB n 0 7200000)) ∧ w = w' := by
  go_enter Tryd.func60, Tryd.ntmps60
  go_wp2_with (go_at_call 61; refine (l00In_any _ _ _ _).mono ?_; rintro e w' ⟨rfl, rfl⟩)
  go_ret
  exact ⟨rfl, rfl⟩

set_option maxRecDepth 20000 in
set_option maxHeartbeats 4000000 in
theorem ValidHolds_any (A : Option Addr) (n c : Nat) (L : List SHold) (w : World) (hr : Rd w A 2 cHold L) (hn : L.length = n) (hb : n ≤ 4194304) :
    Calls Tryd.prog 33 #[.slice A n c] w fun e w' => e = .returned (.bool (vhs L)) ∧ G w w' := by
  have Hn := Lib.hid hn
  have HR := Lib.hid hr
  skip
  clear hr hn
  by_cases hlim : n ≤ 16
  case neg =>
    have H := Lib.hid (show vhs L = false by unfold vhs; rw [Hn.out, decide_eq_false hlim]; simp)
    go_enter Tryd.func33, Tryd.ntmps33
    go_wp2
    go_ret
    exact ⟨ret_bool H.out.symm, G.refl _⟩
  go_enter Tryd.func33, Tryd.ntmps33
  go_wp2
  go_loopw [10] (fun i wr => ∃ (k : Nat), k ≤ n ∧ i = .int .i64 k ∧ (List.range k).all (okAt vhB ltH L) = true ∧ G w wr) (fun i _ => n - (intOf i).toNat)
  case atStart => exact ⟨0, Nat.zero_le _, rfl, rfl, G.refl _⟩
  case round =>
    obtain ⟨k, hk, rfl, ha, hg⟩ := hrel
    have HA := Lib.hid ha
    have G0 := Lib.hid hg
    clear ha hg
    by_cases hlt : k < n
    · obtain ⟨b, o, x, rfl, hx, hc0, hc1⟩ := (HR.out.G G0.out).Hold (k := k) (by rw [Hn.out]; exact hlt)
      have HX := Lib.hid hx
      clear hx
      have ga0 := cellR (w := wr.alloc (.cells #[.int .i64 x.At, .int .i64 x.Length] 54)) (a := ⟨wr.heap.size, 0, none⟩) (World.cell?_alloc_at _ _ _ _ rfl)
      have ga1 := cellR (w := wr.alloc (.cells #[.int .i64 x.At, .int .i64 x.Length] 54)) (a := ⟨wr.heap.size, 1, none⟩) (World.cell?_alloc_at _ _ _ _ rfl)
      have hlt2 : (k : Int) < (n : Int) := by omega
      have hk0 : 0 ≤ (k : Int) := by omega
      cases q0 : inB x.At 0 7200000
      · have H := Lib.hid (show vhs L = false by unfold vhs; rw [chk_bad HX.out (show vhB x = false by simp [vhB, q0])]; simp)
        go_wp2
        refine region_quiet_G (by kernel_rfl) (by kernel_rfl) ?_; (repeat (go_big_quiet_step (((go_at_call 45; exact quiet_G_same (within_any _ _ _ _)))))); refine wpQuiet_nil ?_
        intro w2 hg2
        clear ga0 ga1
        go_wp2
        go_ret
        exact ⟨ret_bool H.out.symm, (G0.out.alloc _).trans hg2⟩
      · skip
        cases q1 : inB x.Length 1 1800000
        · have H := Lib.hid (show vhs L = false by unfold vhs; rw [chk_bad HX.out (show vhB x = false by simp [vhB, q0, q1])]; simp)
          go_wp2
          refine region_quiet_G (by kernel_rfl) (by kernel_rfl) ?_; (repeat (go_big_quiet_step (((go_at_call 45; exact quiet_G_same (within_any _ _ _ _)))))); refine wpQuiet_nil ?_
          intro w2 hg2
          clear ga0 ga1
          go_wp2
          go_ret
          exact ⟨ret_bool H.out.symm, (G0.out.alloc _).trans hg2⟩
        · skip
          have HV := Lib.hid (show vhB x = true by simp [vhB, q0, q1])
          cases k with
          | zero =>
              simp only [Nat.zero_mul, Nat.add_zero] at hc0 hc1
              go_wp2
              refine region_quiet_G (by kernel_rfl) (by kernel_rfl) ?_; (repeat (go_big_quiet_step (((go_at_call 45; exact quiet_G_same (within_any _ _ _ _)))))); refine wpQuiet_nil ?_
              intro w2 hg2
              have G1 := Lib.hid ((G0.out.alloc _).trans hg2)
              clear ga0 ga1 hg2
              go_wp2
              go_roundw
              case rel => exact ⟨1, by omega, rfl, chk_step HA.out (okAt_first HX.out HV.out), G1.out⟩
              case measure => simp [intOf]; omega
          | succ j =>
              obtain ⟨b', o', y, hA', hy, hd0, hd1⟩ := (HR.out.G G0.out).Hold (k := j) (by rw [Hn.out]; omega)
              obtain ⟨rfl, rfl⟩ : b = b' ∧ o = o' := by simpa using hA'
              have HY := Lib.hid hy
              have gd0 := cellR (w := wr.alloc (.cells #[.int .i64 x.At, .int .i64 x.Length] 54)) (((G.refl wr).alloc _).cell hd0)
              have gd1 := cellR (w := wr.alloc (.cells #[.int .i64 x.At, .int .i64 x.Length] 54)) (((G.refl wr).alloc _).cell hd1)
              clear hy hA' hd0 hd1
              cases hl : ltH y x
              · have H := Lib.hid (show vhs L = false by unfold vhs; rw [chk_bad_rel HX.out HY.out hl]; simp)
                have hl2 : x.At ≤ y.At := by simpa [ltH] using hl
                clear hl
                go_wp2
                refine region_quiet_G (by kernel_rfl) (by kernel_rfl) ?_; (repeat (go_big_quiet_step (((go_at_call 45; exact quiet_G_same (within_any _ _ _ _)))))); refine wpQuiet_nil ?_
                intro w2 hg2
                clear ga0 ga1 gd0 gd1
                go_wp2
                go_ret
                exact ⟨ret_bool H.out.symm, (G0.out.alloc _).trans hg2⟩
              · have HL := Lib.hid hl
                have hl2 : y.At < x.At := by simpa [ltH] using hl
                clear hl
                go_wp2
                refine region_quiet_G (by kernel_rfl) (by kernel_rfl) ?_; (repeat (go_big_quiet_step (((go_at_call 45; exact quiet_G_same (within_any _ _ _ _)))))); refine wpQuiet_nil ?_
                intro w2 hg2
                have G1 := Lib.hid ((G0.out.alloc _).trans hg2)
                clear ga0 ga1 gd0 gd1 hg2
                go_wp2
                go_roundw
                case rel => exact ⟨j + 1 + 1, by omega, by go_num, chk_step HA.out (okAt_next HX.out HY.out HV.out HL.out), G1.out⟩
                case measure => simp [intOf]; omega
    · have hkn : k = n := by omega
      have H := Lib.hid (show vhs L = true by unfold vhs; rw [chk_done HA.out (by rw [Hn.out]; exact hkn), Hn.out]; simp; omega)
      go_wp2
      go_ret
      exact ⟨ret_bool H.out.symm, G0.out⟩

set_option maxRecDepth 20000 in
set_option maxHeartbeats 4000000 in
theorem l18Holds_any (A : Option Addr) (n c : Nat) (L : List SHold) (w : World) (hr : Rd w A 2 cHold L) (hn : L.length = n) (hb : n ≤ 4194304) :
    Calls Tryd.prog 30 #[.slice A n c] w fun e w' => e = .returned (.bool (vhs L)) ∧ G w w' := by
  have Hn := Lib.hid hn
  have HR := Lib.hid hr
  skip
  clear hr hn
  go_enter Tryd.func30, Tryd.ntmps30
  go_wp2
  go_loopw [3] (fun i wr => ∃ (k : Nat), k ≤ n ∧ i = .int .i64 k ∧ (List.range k).all (okAt vhB ltH L) = true ∧ G w wr) (fun i _ => n - (intOf i).toNat)
  case atStart => exact ⟨0, Nat.zero_le _, rfl, rfl, G.refl _⟩
  case round =>
    obtain ⟨k, hk, rfl, ha, hg⟩ := hrel
    have HA := Lib.hid ha
    have G0 := Lib.hid hg
    clear ha hg
    by_cases hlt : k < n
    · obtain ⟨b, o, x, rfl, hx, hc0, hc1⟩ := (HR.out.G G0.out).Hold (k := k) (by rw [Hn.out]; exact hlt)
      have HX := Lib.hid hx
      clear hx
      have ga0 := cellR hc0
      have ga1 := cellR hc1
      clear hc0 hc1
      have hlt2 : (k : Int) < (n : Int) := by omega
      have hk0 : 0 ≤ (k : Int) := by omega
      cases q0 : inB x.At 0 7200000
      · have H := Lib.hid (show vhs L = false by unfold vhs; rw [chk_bad HX.out (show vhB x = false by simp [vhB, q0])]; simp)
        go_wp2
        refine region_quiet_G (by kernel_rfl) (by kernel_rfl) ?_; (repeat (go_big_quiet_step (((first | (go_at_call 60; exact quiet_G_same (l14Time_any _ _)) | (go_at_call 61; exact quiet_G_same (l00In_any _ _ _ _))))))); refine wpQuiet_nil ?_
        intro w2 hg2
        clear ga0 ga1
        go_wp2
        go_ret
        exact ⟨ret_bool H.out.symm, (G0.out).trans hg2⟩
      · skip
        cases q1 : inB x.Length 1 1800000
        · have H := Lib.hid (show vhs L = false by unfold vhs; rw [chk_bad HX.out (show vhB x = false by simp [vhB, q0, q1])]; simp)
          go_wp2
          refine region_quiet_G (by kernel_rfl) (by kernel_rfl) ?_; (repeat (go_big_quiet_step (((first | (go_at_call 60; exact quiet_G_same (l14Time_any _ _)) | (go_at_call 61; exact quiet_G_same (l00In_any _ _ _ _))))))); refine wpQuiet_nil ?_
          intro w2 hg2
          clear ga0 ga1
          go_wp2
          go_ret
          exact ⟨ret_bool H.out.symm, (G0.out).trans hg2⟩
        · skip
          have HV := Lib.hid (show vhB x = true by simp [vhB, q0, q1])
          cases k with
          | zero =>
              simp only [Nat.zero_mul, Nat.add_zero] at ga0 ga1
              go_wp2
              refine region_quiet_G (by kernel_rfl) (by kernel_rfl) ?_; (repeat (go_big_quiet_step (((first | (go_at_call 60; exact quiet_G_same (l14Time_any _ _)) | (go_at_call 61; exact quiet_G_same (l00In_any _ _ _ _))))))); refine wpQuiet_nil ?_
              intro w2 hg2
              have G1 := Lib.hid ((G0.out).trans hg2)
              clear ga0 ga1 hg2
              go_wp2
              go_roundw
              case rel => exact ⟨1, by omega, rfl, chk_step HA.out (okAt_first HX.out HV.out), G1.out⟩
              case measure => simp [intOf]; omega
          | succ j =>
              obtain ⟨b', o', y, hA', hy, hd0, hd1⟩ := (HR.out.G G0.out).Hold (k := j) (by rw [Hn.out]; omega)
              obtain ⟨rfl, rfl⟩ : b = b' ∧ o = o' := by simpa using hA'
              have HY := Lib.hid hy
              have gd0 := cellR hd0
              have gd1 := cellR hd1
              clear hy hA' hd0 hd1
              cases hl : ltH y x
              · have H := Lib.hid (show vhs L = false by unfold vhs; rw [chk_bad_rel HX.out HY.out hl]; simp)
                have hl2 : x.At ≤ y.At := by simpa [ltH] using hl
                clear hl
                go_wp2
                refine region_quiet_G (by kernel_rfl) (by kernel_rfl) ?_; (repeat (go_big_quiet_step (((first | (go_at_call 60; exact quiet_G_same (l14Time_any _ _)) | (go_at_call 61; exact quiet_G_same (l00In_any _ _ _ _))))))); refine wpQuiet_nil ?_
                intro w2 hg2
                clear ga0 ga1 gd0 gd1
                go_wp2
                go_ret
                exact ⟨ret_bool H.out.symm, (G0.out).trans hg2⟩
              · have HL := Lib.hid hl
                have hl2 : y.At < x.At := by simpa [ltH] using hl
                clear hl
                go_wp2
                refine region_quiet_G (by kernel_rfl) (by kernel_rfl) ?_; (repeat (go_big_quiet_step (((first | (go_at_call 60; exact quiet_G_same (l14Time_any _ _)) | (go_at_call 61; exact quiet_G_same (l00In_any _ _ _ _))))))); refine wpQuiet_nil ?_
                intro w2 hg2
                have G1 := Lib.hid ((G0.out).trans hg2)
                clear ga0 ga1 gd0 gd1 hg2
                go_wp2
                go_roundw
                case rel => exact ⟨j + 1 + 1, by omega, by go_num, chk_step HA.out (okAt_next HX.out HY.out HV.out HL.out), G1.out⟩
                case measure => simp [intOf]; omega
    · have hkn : k = n := by omega
      have H := Lib.hid (show vhs L = decide (n ≤ 16) by unfold vhs; rw [chk_done HA.out (by rw [Hn.out]; exact hkn), Hn.out]; simp)
      go_wp2
      go_ret
      exact ⟨ret_bool (by rw [H.out]; simp; omega), G0.out⟩

theorem iValidHolds_any (A : Option Addr) (n c : Nat) (L : List SHold) (w : World) (hr : Rd w A 2 cHold L) (hn : L.length = n) (hb : n ≤ 4194304) :
    Calls Tryd.prog 33 #[.slice A n c] w fun e w' => e = .returned (.bool (vhs L)) ∧ G w w' := ValidHolds_any A n c L w hr hn hb
end Go.Proofs.YtcoaldhmofdfgaaDoor
