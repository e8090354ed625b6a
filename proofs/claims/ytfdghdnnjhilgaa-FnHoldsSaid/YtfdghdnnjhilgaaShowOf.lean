/-
  Walks: ShowOf, by the specification's text.
-/
import Derived.Test.YtfdghdnnjhilgaaShowI
namespace Go.Proofs.Ytfdghdnnjhilgaa
open Go.RowKit

set_option maxRecDepth 20000 in
set_option maxHeartbeats 1000000 in
theorem l18Show_any (A : Option Addr) (n c : Nat) (L : List SHold) (r : Int) (w : World) (hr : Rd w A 2 cHold L) (hn : L.length = n) (hv : vhs L = true) (hr0 : 0 ≤ r) (hr1 : r ≤ 40000000) :
    Calls Try.prog 70 #[.slice A n c, .int .i64 r] w fun e w' => e = .returned (.tuple #[.int .i64 (showV L r), .bool (heldB L r (showV L r))]) ∧ G w w' := by
  have hb : n ≤ 16 := by rw [← hn]; exact vhs_len hv
  have Hn := Lib.hid hn
  have HR := Lib.hid hr
  have HV := Lib.hid hv
  clear hr hn hv
  go_enter Try.func70, Try.ntmps70
  go_wp2
  go_loopw [6, 7] (fun v i wr => ∃ k : Nat, k ≤ n ∧ i = .int .i64 k ∧ v = .int .i64 (lostL (L.take k)) ∧ Hid (Passed L r k) ∧ 0 ≤ r - lostL (L.take k) ∧ G w wr) (fun _ i _ => n - (intOf i).toNat)
  case atStart => exact ⟨0, Nat.zero_le _, rfl, by simp [lostL], Lib.hid (fun i x hi => absurd hi (Nat.not_lt_zero _)), by simp [lostL]; omega, G.refl _⟩
  case round =>
    obtain ⟨k, hk, rfl, rfl, HP, h0, hg⟩ := hrel
    obtain ⟨wo, rfl⟩ : ∃ wo : World, wo = wr := ⟨_, rfl⟩
    have G0 := Lib.hid hg
    have hlo := lost_take HV.out k
    clear hg
    obtain ⟨lo, HLo⟩ : ∃ lo, Hid (lostL (L.take k) = lo) := ⟨_, rfl⟩
    rw [HLo.out] at h0 hlo
    rw [HLo.out]
    by_cases hlt : k < n
    · obtain ⟨b, o, x, rfl, hx, hc0, hc1⟩ := (HR.out.G G0.out).Hold (k := k) (by rw [Hn.out]; exact hlt)
      have HX := Lib.hid hx
      have hxb := vhs_at HV.out hx
      have hlt2 : (k : Int) < (n : Int) := by omega
      have hk0 : 0 ≤ (k : Int) := by omega
      clear hx
      by_cases h1 : r - lo ≤ x.At
      · have HS := Lib.hid (showV_eq HV.out (isShow_end HV.out HP.out (by rw [HLo.out]; exact h0) (fun y hy => by rw [HLo.out]; rw [HX.out] at hy; cases hy; exact h1)))
        rw [HLo.out] at HS
        clear HX hlt2 hk0
        obtain ⟨t, HT⟩ : ∃ t, Hid (min 7200000 (r - lo) = t) := ⟨_, rfl⟩
        have ht0 : 0 ≤ t := by have := HT.out; omega
        have ht1 : t ≤ 7200000 := by have := HT.out; omega
        have HW := Lib.hid (show showV L r = t by rw [← HT.out]; exact HS.out)
        have K := Lib.hid (fun W => l00Min_any 7200000 (r - lo) W)
        rw [HT.out] at K
        clear HS
        go_wp2_with (go_at_call 74; refine (K.out _).mono ?_; rintro e w' ⟨rfl, rfl⟩)
        clear K
        go_loopw [9, 10] (fun v i wr => ∃ k : Nat, k ≤ n ∧ i = .int .i64 k ∧ v = .bool ((L.take k).any (heldF L r t)) ∧ G w wr) (fun _ i _ => n - (intOf i).toNat)
        case atStart => exact ⟨0, Nat.zero_le _, rfl, by simp, G0.out⟩
        case round =>
          obtain ⟨q, hq, rfl, rfl, hg⟩ := hrel
          have G1 := Lib.hid hg
          clear hg
          by_cases hlq : q < n
          · obtain ⟨bb, oo, y, hAq, hy, hd0, hd1⟩ := (HR.out.G G1.out).Hold (k := q) (by rw [Hn.out]; exact hlq)
            obtain ⟨rfl, rfl⟩ : b = bb ∧ o = oo := by simpa using hAq
            have HY := Lib.hid hy
            have hyb := vhs_at HV.out hy
            have hrb := realL_take HV.out n t
            rw [List.take_of_length_le (by rw [Hn.out]; omega)] at hrb
            have hlq2 : (q : Int) < (n : Int) := by omega
            have hq0 : 0 ≤ (q : Int) := by omega
            clear hy
            have gx0 := cellR hd0
            have gx1 := cellR hd1
            have K := Lib.hid (fun (d : Nat) (os : Array Obj) => l18Real_any (some ⟨b, o, none⟩) n c L t (Sort.grow (redrawn wr d) os) (HR.out.G (G1.out.trans (G.regrown _ d os))) Hn.out HV.out (by omega) (by omega))
            obtain ⟨hb2, HB⟩ : ∃ hb2, Hid ((L.take q).any (heldF L r t) = hb2) := ⟨_, rfl⟩
            rw [HB.out]
            cases hb2
            · by_cases hqa : y.At = t
              · have hd : (y.At == t) = true := by simpa using hqa
                clear hqa
                have hwr : IntKind.i64.wrap (realL L t + y.Length) = realL L t + y.Length := IntWalk.i64_in _ (by omega)
                by_cases hin : r < realL L t + y.Length
                · have H3 := Lib.hid (any_hit (p := heldF L r t) HY.out (by simp [heldF, hd, hin]))
                  go_wp2
                  refine region_quiet_G (by kernel_rfl) (by kernel_rfl) ?_; (repeat (go_big_quiet_step (((go_at_call 62; exact quiet_G_same (K.out _ _)))))); refine wpQuiet_nil ?_
                  intro w2 g2
                  clear K gx0 gx1
                  go_wp2
                  go_roundw
                  case rel => exact ⟨q + 1, by omega, by go_num, by rw [H3.out], G1.out.trans g2⟩
                  case measure => simp [intOf]; omega
                · have H3 := Lib.hid (any_no (p := heldF L r t) HY.out HB.out (by simp [heldF]; omega))
                  go_wp2
                  refine region_quiet_G (by kernel_rfl) (by kernel_rfl) ?_; (repeat (go_big_quiet_step (((go_at_call 62; exact quiet_G_same (K.out _ _)))))); refine wpQuiet_nil ?_
                  intro w2 g2
                  clear K gx0 gx1
                  go_wp2
                  go_roundw
                  case rel => exact ⟨q + 1, by omega, by go_num, by rw [H3.out, decide_eq_false (Int.not_lt.2 hin)], G1.out.trans g2⟩
                  case measure => simp [intOf]; omega
              · have hd : (y.At == t) = false := by simpa using hqa
                have H3 := Lib.hid (any_no (p := heldF L r t) HY.out HB.out (by simp [heldF, hd]))
                go_wp2
                refine region_quiet_G (by kernel_rfl) (by kernel_rfl) ?_; (repeat (go_big_quiet_step (((go_at_call 62; exact quiet_G_same (K.out _ _)))))); refine wpQuiet_nil ?_
                intro w2 g2
                clear K gx0 gx1
                go_wp2
                go_roundw
                case rel => exact ⟨q + 1, by omega, by go_num, by rw [H3.out], G1.out.trans g2⟩
                case measure => simp [intOf]; omega
            · have H3 := Lib.hid (any_old (p := heldF L r t) HY.out HB.out)
              go_wp2
              refine region_quiet_G (by kernel_rfl) (by kernel_rfl) ?_; (repeat (go_big_quiet_step (((go_at_call 62; exact quiet_G_same (K.out _ _)))))); refine wpQuiet_nil ?_
              intro w2 g2
              clear K gx0 gx1
              go_wp2
              go_roundw
              case rel => exact ⟨q + 1, by omega, by go_num, by rw [H3.out], G1.out.trans g2⟩
              case measure => simp [intOf]; omega
          · have H3 := Lib.hid (show heldB L r t = (L.take q).any (heldF L r t) by rw [← heldB_take (k := q) (by rw [Hn.out]; omega)])
            go_wp2
            go_ret2
            exact ⟨ret_ib HW.out.symm (by rw [HW.out, H3.out]), G1.out⟩
      · by_cases h2 : r - lo < x.At + x.Length
        · have H3 := Lib.hid (isShow_held (r := r) HV.out HX.out (by rw [HLo.out]; omega) (by rw [HLo.out]; exact h2))
          have HW := Lib.hid (showV_eq HV.out H3.out.1)
          go_wp2
          go_quiet (fail)
          go_wp2
          go_ret2
          exact ⟨ret_ib HW.out.symm (by rw [HW.out, H3.out.2]), G0.out.drewN _⟩
        · have H3 := Lib.hid (passed_step (r := r) HV.out HX.out (by rw [HLo.out]; omega))
          have H4 := Lib.hid (show lostL (L.take (k + 1)) = lo + x.Length by rw [take_snoc HX.out, lostL_snoc, HLo.out])
          go_wp2
          go_quiet (fail)
          go_wp2
          go_roundw
          case rel => exact ⟨k + 1, by omega, by go_num, by rw [H4.out], H3, by rw [H4.out]; omega, G0.out.drewN _⟩
          case measure => simp [intOf]; omega
    · have HS := Lib.hid (showV_eq HV.out (isShow_end HV.out HP.out (by rw [HLo.out]; exact h0) (fun y hy => absurd (List.getElem?_eq_some_iff.1 hy).1 (by rw [Hn.out]; exact hlt))))
      rw [HLo.out] at HS
      obtain ⟨t, HT⟩ : ∃ t, Hid (min 7200000 (r - lo) = t) := ⟨_, rfl⟩
      have ht0 : 0 ≤ t := by have := HT.out; omega
      have ht1 : t ≤ 7200000 := by have := HT.out; omega
      have HW := Lib.hid (show showV L r = t by rw [← HT.out]; exact HS.out)
      have K := Lib.hid (fun W => l00Min_any 7200000 (r - lo) W)
      rw [HT.out] at K
      clear HS
      go_wp2_with (go_at_call 74; refine (K.out _).mono ?_; rintro e w' ⟨rfl, rfl⟩)
      clear K
      go_loopw [9, 10] (fun v i wr => ∃ k : Nat, k ≤ n ∧ i = .int .i64 k ∧ v = .bool ((L.take k).any (heldF L r t)) ∧ G w wr) (fun _ i _ => n - (intOf i).toNat)
      case atStart => exact ⟨0, Nat.zero_le _, rfl, by simp, G0.out⟩
      case round =>
        obtain ⟨q, hq, rfl, rfl, hg⟩ := hrel
        have G1 := Lib.hid hg
        clear hg
        by_cases hlq : q < n
        · obtain ⟨bb, oo, y, hAq, hy, hd0, hd1⟩ := (HR.out.G G1.out).Hold (k := q) (by rw [Hn.out]; exact hlq)
          subst hAq
          have HY := Lib.hid hy
          have hyb := vhs_at HV.out hy
          have hrb := realL_take HV.out n t
          rw [List.take_of_length_le (by rw [Hn.out]; omega)] at hrb
          have hlq2 : (q : Int) < (n : Int) := by omega
          have hq0 : 0 ≤ (q : Int) := by omega
          clear hy
          have gx0 := cellR hd0
          have gx1 := cellR hd1
          have K := Lib.hid (fun (d : Nat) (os : Array Obj) => l18Real_any (some ⟨bb, oo, none⟩) n c L t (Sort.grow (redrawn wr d) os) (HR.out.G (G1.out.trans (G.regrown _ d os))) Hn.out HV.out (by omega) (by omega))
          obtain ⟨hb2, HB⟩ : ∃ hb2, Hid ((L.take q).any (heldF L r t) = hb2) := ⟨_, rfl⟩
          rw [HB.out]
          cases hb2
          · by_cases hqa : y.At = t
            · have hd : (y.At == t) = true := by simpa using hqa
              clear hqa
              have hwr : IntKind.i64.wrap (realL L t + y.Length) = realL L t + y.Length := IntWalk.i64_in _ (by omega)
              by_cases hin : r < realL L t + y.Length
              · have H3 := Lib.hid (any_hit (p := heldF L r t) HY.out (by simp [heldF, hd, hin]))
                go_wp2
                refine region_quiet_G (by kernel_rfl) (by kernel_rfl) ?_; (repeat (go_big_quiet_step (((go_at_call 62; exact quiet_G_same (K.out _ _)))))); refine wpQuiet_nil ?_
                intro w2 g2
                clear K gx0 gx1
                go_wp2
                go_roundw
                case rel => exact ⟨q + 1, by omega, by go_num, by rw [H3.out], G1.out.trans g2⟩
                case measure => simp [intOf]; omega
              · have H3 := Lib.hid (any_no (p := heldF L r t) HY.out HB.out (by simp [heldF]; omega))
                go_wp2
                refine region_quiet_G (by kernel_rfl) (by kernel_rfl) ?_; (repeat (go_big_quiet_step (((go_at_call 62; exact quiet_G_same (K.out _ _)))))); refine wpQuiet_nil ?_
                intro w2 g2
                clear K gx0 gx1
                go_wp2
                go_roundw
                case rel => exact ⟨q + 1, by omega, by go_num, by rw [H3.out, decide_eq_false (Int.not_lt.2 hin)], G1.out.trans g2⟩
                case measure => simp [intOf]; omega
            · have hd : (y.At == t) = false := by simpa using hqa
              have H3 := Lib.hid (any_no (p := heldF L r t) HY.out HB.out (by simp [heldF, hd]))
              go_wp2
              refine region_quiet_G (by kernel_rfl) (by kernel_rfl) ?_; (repeat (go_big_quiet_step (((go_at_call 62; exact quiet_G_same (K.out _ _)))))); refine wpQuiet_nil ?_
              intro w2 g2
              clear K gx0 gx1
              go_wp2
              go_roundw
              case rel => exact ⟨q + 1, by omega, by go_num, by rw [H3.out], G1.out.trans g2⟩
              case measure => simp [intOf]; omega
          · have H3 := Lib.hid (any_old (p := heldF L r t) HY.out HB.out)
            go_wp2
            refine region_quiet_G (by kernel_rfl) (by kernel_rfl) ?_; (repeat (go_big_quiet_step (((go_at_call 62; exact quiet_G_same (K.out _ _)))))); refine wpQuiet_nil ?_
            intro w2 g2
            clear K gx0 gx1
            go_wp2
            go_roundw
            case rel => exact ⟨q + 1, by omega, by go_num, by rw [H3.out], G1.out.trans g2⟩
            case measure => simp [intOf]; omega
        · have H3 := Lib.hid (show heldB L r t = (L.take q).any (heldF L r t) by rw [← heldB_take (k := q) (by rw [Hn.out]; omega)])
          go_wp2
          go_ret2
          exact ⟨ret_ib HW.out.symm (by rw [HW.out, H3.out]), G1.out⟩

theorem ret_ibi {R : Int × Bool × Int} {a c : Int} {b : Bool} (h : R = (a, b, c)) : Ending.returned (.tuple #[.int .i64 a, .bool b, .int .i64 c]) = .returned (.tuple #[.int .i64 R.1, .bool R.2.1, .int .i64 R.2.2]) := by rw [h]

set_option maxHeartbeats 1000000 in
theorem iShowOf_any (A : Option Addr) (n c : Nat) (L : List SHold) (r : Int) (w : World) (hr : Rd w A 2 cHold L) (hn : L.length = n) (hb : n ≤ 4194304) :
    Calls Try.prog 34 #[.slice A n c, .int .i64 r] w fun e w' => e = .returned (.tuple #[.int .i64 (showR L r).1, .bool (showR L r).2.1, .int .i64 (showR L r).2.2]) ∧ G w w' := by
  have K := Lib.hid (iValidHolds_any A n c L w hr hn hb)
  have Hn := Lib.hid hn
  have HR := Lib.hid hr
  clear hr hn
  cases hv : vhs L
  · have H := Lib.hid (show showR L r = (0, false, 1) by unfold showR; rw [if_pos hv])
    rw [hv] at K
    go_enter Try.func34, Try.ntmps34
    go_wp2_with (go_at_call 17; refine K.out.mono ?_; rintro e w1 ⟨rfl, g1⟩)
    go_ret3
    exact ⟨ret_ibi H.out, by assumption⟩
  have HV := Lib.hid hv
  rw [hv] at K
  clear hv
  cases hu : inB r 0 40000000
  · have H := Lib.hid (show showR L r = (0, false, 2) by unfold showR; rw [if_neg (by rw [HV.out]; simp), if_pos hu])
    go_enter Try.func34, Try.ntmps34
    go_wp2_with (first | (go_at_call 17; refine K.out.mono ?_; rintro e w1 ⟨rfl, g1⟩) | (go_at_call 56; refine (within_any _ _ _ _).mono ?_; rintro e w' ⟨rfl, rfl⟩))
    go_ret3
    exact ⟨ret_ibi H.out, by assumption⟩
  · have H := Lib.hid (show showR L r = (showV L r, heldB L r (showV L r), 0) by unfold showR; rw [if_neg (by rw [HV.out]; simp), if_neg (by rw [hu]; simp)])
    have hub := inB_iff.1 hu
    go_enter Try.func34, Try.ntmps34
    go_wp2_with (first | (go_at_call 17; refine K.out.mono ?_; rintro e w1 ⟨rfl, g1⟩; have G1 := Lib.hid g1; clear g1) | (go_at_call 71; refine (showOf_any A n c L r _ (HR.out.G G1.out) Hn.out HV.out hub.1 hub.2).mono ?_; rintro e w2 ⟨rfl, g2⟩) | (go_at_call 56; refine (within_any _ _ _ _).mono ?_; rintro e w' ⟨rfl, rfl⟩))
    go_ret3
    exact ⟨ret_ibi H.out, G1.out.trans (by assumption)⟩

set_option maxHeartbeats 1000000 in
theorem sShowOf_any (A : Option Addr) (n c : Nat) (L : List SHold) (r : Int) (w : World) (hr : Rd w A 2 cHold L) (hn : L.length = n) (hb : n ≤ 4194304) :
    Calls Try.prog 33 #[.slice A n c, .int .i64 r] w fun e w' => e = .returned (.tuple #[.int .i64 (showR L r).1, .bool (showR L r).2.1, .int .i64 (showR L r).2.2]) ∧ G w w' := by
  have K := Lib.hid (l18Holds_any A n c L w hr hn hb)
  have Hn := Lib.hid hn
  have HR := Lib.hid hr
  clear hr hn
  cases hv : vhs L
  · have H := Lib.hid (show showR L r = (0, false, 1) by unfold showR; rw [if_pos hv])
    rw [hv] at K
    go_enter Try.func33, Try.ntmps33
    go_wp2_with (go_at_call 54; refine K.out.mono ?_; rintro e w1 ⟨rfl, g1⟩)
    go_ret3
    exact ⟨ret_ibi H.out, by assumption⟩
  have HV := Lib.hid hv
  rw [hv] at K
  clear hv
  cases hu : inB r 0 40000000
  · have H := Lib.hid (show showR L r = (0, false, 2) by unfold showR; rw [if_neg (by rw [HV.out]; simp), if_pos hu])
    go_enter Try.func33, Try.ntmps33
    go_wp2_with (first | (go_at_call 54; refine K.out.mono ?_; rintro e w1 ⟨rfl, g1⟩) | (go_at_call 69; refine (l18Time_any _ _).mono ?_; rintro e w' ⟨rfl, rfl⟩))
    go_ret3
    exact ⟨ret_ibi H.out, by assumption⟩
  · have H := Lib.hid (show showR L r = (showV L r, heldB L r (showV L r), 0) by unfold showR; rw [if_neg (by rw [HV.out]; simp), if_neg (by rw [hu]; simp)])
    have hub := inB_iff.1 hu
    go_enter Try.func33, Try.ntmps33
    go_wp2_with (first | (go_at_call 54; refine K.out.mono ?_; rintro e w1 ⟨rfl, g1⟩; have G1 := Lib.hid g1; clear g1) | (go_at_call 70; refine (l18Show_any A n c L r _ (HR.out.G G1.out) Hn.out HV.out hub.1 hub.2).mono ?_; rintro e w2 ⟨rfl, g2⟩) | (go_at_call 69; refine (l18Time_any _ _).mono ?_; rintro e w' ⟨rfl, rfl⟩))
    go_ret3
    exact ⟨ret_ibi H.out, G1.out.trans (by assumption)⟩
end Go.Proofs.Ytfdghdnnjhilgaa
