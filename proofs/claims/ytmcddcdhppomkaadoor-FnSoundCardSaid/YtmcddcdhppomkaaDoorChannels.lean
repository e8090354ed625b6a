/-
  Walks: valid channels, by both texts, and their law.
-/
import Derived.Test.YtmcddcdhppomkaaDoorStChannel
import Derived.Test.YtmcddcdhppomkaaDoorNames
import Derived.Test.YtmcddcdhppomkaaDoorGain
import Derived.Test.YtmcddcdhppomkaaDoorChk
namespace Go.Proofs.YtmcddcdhppomkaaDoor
open Go.RowKit

def vcB (x : SChannel) : Bool := nameB x.Name && inB x.Gain (-6000) 600 && inB x.Pan (-1000) 1000
def ltC (a b : SChannel) : Bool := ltS a.Name b.Name
def vcs (L : List SChannel) : Bool := decide (L.length ≤ 8) && chk vcB ltC L
theorem vcB_name {x : SChannel} (h : nameB x.Name = false) : vcB x = false := by simp [vcB, h]
theorem vcB_gain {x : SChannel} (h : inB x.Gain (-6000) 600 = false) : vcB x = false := by simp [vcB, h]
theorem vcB_pan {x : SChannel} (h : inB x.Pan (-1000) 1000 = false) : vcB x = false := by simp [vcB, h]
theorem vcB_ok {x : SChannel} (h1 : nameB x.Name = true) (h2 : inB x.Gain (-6000) 600 = true) (h3 : inB x.Pan (-1000) 1000 = true) : vcB x = true := by simp [vcB, h1, h2, h3]

set_option maxHeartbeats 1000000 in
theorem validChannel_any (x : SChannel) (hw : WfChannel x) (w : World) :
    Calls Tryd.prog 37 #[.agg #[.string x.Name, .int .i64 x.Gain, .int .i64 x.Pan, .bool x.Muted]] w fun e w' => e = .returned (.bool (vcB x)) ∧ G w w' := by
  unfold WfChannel at hw
  cases h1 : nameB x.Name
  · have H := Lib.hid (vcB_name h1)
    go_enter Tryd.func37, Tryd.ntmps37
    go_wp2_with (go_at_call 47; refine (IsName_any _ (by assumption) _).mono ?_; rintro e w' ⟨rfl, rfl⟩)
    go_ret
    exact ⟨ret_bool H.out.symm, (G.refl _).alloc _⟩
  · cases h2 : inB x.Gain (-6000) 600
    · have H := Lib.hid (vcB_gain h2)
      go_enter Tryd.func37, Tryd.ntmps37
      go_wp2_with (first | (go_at_call 47; refine (IsName_any _ (by assumption) _).mono ?_; rintro e w' ⟨rfl, rfl⟩) | (go_at_call 22; refine (isGain_any _ _).mono ?_; rintro e w' ⟨rfl, rfl⟩))
      go_ret
      exact ⟨ret_bool H.out.symm, (G.refl _).alloc _⟩
    · cases h3 : inB x.Pan (-1000) 1000
      · have H := Lib.hid (vcB_pan h3)
        go_enter Tryd.func37, Tryd.ntmps37
        go_wp2_with (first | (go_at_call 47; refine (IsName_any _ (by assumption) _).mono ?_; rintro e w' ⟨rfl, rfl⟩) | (go_at_call 22; refine (isGain_any _ _).mono ?_; rintro e w' ⟨rfl, rfl⟩) | (go_at_call 40; refine (within_any _ _ _ _).mono ?_; rintro e w' ⟨rfl, rfl⟩))
        go_ret
        exact ⟨ret_bool H.out.symm, (G.refl _).alloc _⟩
      · have H := Lib.hid (vcB_ok h1 h2 h3)
        go_enter Tryd.func37, Tryd.ntmps37
        go_wp2_with (first | (go_at_call 47; refine (IsName_any _ (by assumption) _).mono ?_; rintro e w' ⟨rfl, rfl⟩) | (go_at_call 22; refine (isGain_any _ _).mono ?_; rintro e w' ⟨rfl, rfl⟩) | (go_at_call 40; refine (within_any _ _ _ _).mono ?_; rintro e w' ⟨rfl, rfl⟩))
        go_ret
        exact ⟨ret_bool H.out.symm, (G.refl _).alloc _⟩

theorem vcs_bad {L : List SChannel} {k : Nat} {x : SChannel} (hx : L[k]? = some x) (h : vcB x = false) : vcs L = false := by unfold vcs; rw [chk_bad hx h]; simp
theorem vcs_rel {L : List SChannel} {j : Nat} {x y : SChannel} (hx : L[j + 1]? = some x) (hy : L[j]? = some y) (h : ltC y x = false) : vcs L = false := by unfold vcs; rw [chk_bad_rel hx hy h]; simp

set_option maxHeartbeats 2000000 in
theorem ValidChannels_any (A : Option Addr) (n c : Nat) (L : List SChannel) (w : World) (hr : Rd w A 4 cChannel L) (hn : L.length = n) (hb : n ≤ 4194304) (hwf : ∀ x ∈ L, WfChannel x) :
    Calls Tryd.prog 33 #[.slice A n c] w fun e w' => e = .returned (.bool (vcs L)) ∧ G w w' := by
  have Hn := Lib.hid hn
  have HR := Lib.hid hr
  have HW := Lib.hid hwf
  clear hr hn hwf
  by_cases h8 : n ≤ 8
  case neg =>
    have H := Lib.hid (show vcs L = false by unfold vcs; rw [Hn.out, decide_eq_false h8]; simp)
    go_enter Tryd.func33, Tryd.ntmps33
    go_wp2
    go_ret
    exact ⟨ret_bool H.out.symm, G.refl _⟩
  go_enter Tryd.func33, Tryd.ntmps33
  go_wp2
  go_loopw [10] (fun i wr => ∃ (k : Nat), k ≤ n ∧ i = .int .i64 k ∧ (List.range k).all (okAt vcB ltC L) = true ∧ G w wr) (fun i _ => n - (intOf i).toNat)
  case atStart => exact ⟨0, Nat.zero_le _, rfl, rfl, G.refl _⟩
  case round =>
    obtain ⟨k, hk, rfl, ha, hg⟩ := hrel
    have HA := Lib.hid ha
    have G0 := Lib.hid hg
    clear ha hg
    by_cases hlt : k < n
    · obtain ⟨b, o, x, rfl, hx, hc0, hc1, hc2, hc3⟩ := (HR.out.G G0.out).Channel (k := k) (by rw [Hn.out]; exact hlt)
      have hwx := Lib.hid (HW.out x (List.mem_of_getElem? hx))
      have HX := Lib.hid hx
      have ga0 := cellR (w := wr.alloc (.cells #[.string x.Name, .int .i64 x.Gain, .int .i64 x.Pan, .bool x.Muted] 35)) (a := ⟨wr.heap.size, 0, none⟩) (World.cell?_alloc_at _ _ _ _ rfl)
      have ga1 := cellR (w := wr.alloc (.cells #[.string x.Name, .int .i64 x.Gain, .int .i64 x.Pan, .bool x.Muted] 35)) (a := ⟨wr.heap.size, 1, none⟩) (World.cell?_alloc_at _ _ _ _ rfl)
      have ga2 := cellR (w := wr.alloc (.cells #[.string x.Name, .int .i64 x.Gain, .int .i64 x.Pan, .bool x.Muted] 35)) (a := ⟨wr.heap.size, 2, none⟩) (World.cell?_alloc_at _ _ _ _ rfl)
      have ga3 := cellR (w := wr.alloc (.cells #[.string x.Name, .int .i64 x.Gain, .int .i64 x.Pan, .bool x.Muted] 35)) (a := ⟨wr.heap.size, 3, none⟩) (World.cell?_alloc_at _ _ _ _ rfl)
      have C1 := Lib.hid (fun (W : World) => validChannel_any x hwx.out W)
      clear hx
      have hlt2 : (k : Int) < (n : Int) := by omega
      have hk0 : 0 ≤ (k : Int) := by omega
      cases hv : vcB x
      · have H := Lib.hid (vcs_bad HX.out hv)
        rw [hv] at C1
        go_wp2
        refine region_quiet_G (by kernel_rfl) (by kernel_rfl) ?_; (repeat (go_big_quiet_step (((go_at_call 37; exact quiet_G (C1.out _)))))); refine wpQuiet_nil ?_
        intro w2 hg2
        clear C1 ga0 ga1 ga2 ga3
        go_wp2
        go_ret
        exact ⟨ret_bool H.out.symm, (G0.out.alloc _).trans hg2⟩
      · have HV := Lib.hid hv
        rw [hv] at C1
        clear hv
        cases k with
        | zero =>
          simp only [Nat.zero_mul, Nat.add_zero] at hc0 hc1 hc2 hc3
          go_wp2
          refine region_quiet_G (by kernel_rfl) (by kernel_rfl) ?_; (repeat (go_big_quiet_step (((go_at_call 37; exact quiet_G (C1.out _)))))); refine wpQuiet_nil ?_
          intro w2 hg2
          clear C1 ga0 ga1 ga2 ga3
          have G1 := Lib.hid ((G0.out.alloc _).trans hg2)
          clear hg2
          go_wp2
          go_roundw
          case rel => exact ⟨1, by omega, rfl, chk_step HA.out (okAt_first HX.out HV.out), G1.out⟩
          case measure => simp [intOf]; omega
        | succ j =>
          obtain ⟨b', o', y, hA', hy, hd0, _, _, _⟩ := (HR.out.G G0.out).Channel (k := j) (by rw [Hn.out]; omega)
          obtain ⟨rfl, rfl⟩ : b = b' ∧ o = o' := by simpa using hA'
          have HY := Lib.hid hy
          have gd0 := cellR (w := wr.alloc (.cells #[.string x.Name, .int .i64 x.Gain, .int .i64 x.Pan, .bool x.Muted] 35)) (((G.refl wr).alloc _).cell hd0)
          clear hy hA' hd0
          cases hl : ltC y x
          · have H := Lib.hid (vcs_rel HX.out HY.out hl)
            have hl2 : Op.bytesLess y.Name.toList x.Name.toList = false := hl
            clear hl
            go_wp2
            refine region_quiet_G (by kernel_rfl) (by kernel_rfl) ?_; (repeat (go_big_quiet_step (((go_at_call 37; exact quiet_G (C1.out _)))))); refine wpQuiet_nil ?_
            intro w2 hg2
            clear C1 ga0 ga1 ga2 ga3 gd0
            go_wp2
            go_ret
            exact ⟨ret_bool H.out.symm, (G0.out.alloc _).trans hg2⟩
          · have HL := Lib.hid hl
            have hl2 : Op.bytesLess y.Name.toList x.Name.toList = true := hl
            clear hl
            go_wp2
            refine region_quiet_G (by kernel_rfl) (by kernel_rfl) ?_; (repeat (go_big_quiet_step (((go_at_call 37; exact quiet_G (C1.out _)))))); refine wpQuiet_nil ?_
            intro w2 hg2
            clear C1 ga0 ga1 ga2 ga3 gd0
            have G1 := Lib.hid ((G0.out.alloc _).trans hg2)
            clear hg2
            go_wp2
            go_roundw
            case rel => exact ⟨j + 1 + 1, by omega, by go_num, chk_step HA.out (okAt_next HX.out HY.out HV.out HL.out), G1.out⟩
            case measure => simp [intOf]; omega
    · have hkn : k = n := by omega
      have H := Lib.hid (show vcs L = true by unfold vcs; rw [chk_done HA.out (by rw [Hn.out]; exact hkn), Hn.out]; simp; omega)
      go_wp2
      go_ret
      exact ⟨ret_bool H.out.symm, G0.out⟩

theorem iValidChannels_any (A : Option Addr) (n c : Nat) (L : List SChannel) (w : World) (hr : Rd w A 4 cChannel L) (hn : L.length = n) (hb : n ≤ 4194304) (hwf : ∀ x ∈ L, WfChannel x) :
    Calls Tryd.prog 33 #[.slice A n c] w fun e w' => e = .returned (.bool (vcs L)) ∧ G w w' := ValidChannels_any A n c L w hr hn hb hwf
end Go.Proofs.YtmcddcdhppomkaaDoor
