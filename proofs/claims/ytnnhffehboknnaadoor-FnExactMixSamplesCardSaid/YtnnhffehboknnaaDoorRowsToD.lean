/-
  Walks: slices of slices of integers copied and measured by the law's own functions.
-/
import Derived.Test.YtnnhffehboknnaaDoorRowsWD
namespace Go.Proofs.YtnnhffehboknnaaDoor
open Go.RowKit

set_option maxHeartbeats 1000000 in
theorem toInt64SS_any (A : Option Addr) (n c : Nat) (M : List (List Int)) (w : World) (hr : RdR w A M) (hn : M.length = n) (hb : n ≤ 1048576) (hrow : ∀ r ∈ M, r.length ≤ 1048576) :
    Calls Tryd.prog 18 #[.slice A n c] w fun e w' => ∃ hs, e = .returned (.slice (some ⟨w.heap.size, 0, none⟩) n n) ∧ G w w' ∧ w.heap.size < w'.heap.size ∧ OwnR w' w.heap.size 36 2 (.slice (some ⟨w.heap.size, 0, none⟩) n n) hs M := by
  obtain ⟨i0, hi, hz0, hz1, hz2⟩ := info_parts infoRow
  have HR := Lib.hid hr
  have Hn := Lib.hid hn
  have HW := Lib.hid hrow
  clear hr hn hrow
  go_enter Tryd.func18, Tryd.ntmps18
  go_wp2_with (refine wpList_make_full _ rfl _ _ 33 rfl w.heap.size 36 i0 (.slice none 0 0) 1 Tryd.underlying33 hi hz0 hz1 .i64 .i64 _ _ n rfl rfl rfl rfl (by rw [hz2]; omega) (by unfold maxLen; omega) (Nat.le_refl _) ?_; intro w1 hown hgrow; have HO := Lib.hid hown; have HG := Lib.hid ((G.refl w).grown hgrow (by simp)); clear hown hgrow hi hz0 hz1 hz2)
  go_loopw [4] (fun i wr => ∃ (k : Nat) (xs : List Value), k ≤ n ∧ i = .int .i64 k ∧ Hid (OwnK wr w.heap.size 36 2 w.heap.size n xs M k) ∧ Hid (G w wr)) (fun i _ => n - (intOf i).toNat)
  case atStart => exact ⟨0, _, Nat.zero_le _, rfl, Lib.hid ⟨HO.out, fun i h r h0 => by omega, fun i h h0 => by omega, fun i j h k h0 => by omega⟩, HG⟩
  case round =>
    obtain ⟨k, xs, hk, rfl, HK, G0⟩ := hrel
    have hsz := HK.out.own.lt w.heap.size rfl
    by_cases hlt : k < n
    · obtain ⟨b, o, r, Ai, ci, rfl, hx, _, hc, hrd⟩ := (HR.out.g G0.out).at_ (k := k) (by rw [Hn.out]; exact hlt)
      have HX := Lib.hid hx
      have HRD := Lib.hid hrd
      have hrl := HW.out r (List.mem_of_getElem? hx)
      clear hx hrd
      go_wp2_with fail
      refine (toInt64S_any Ai r.length ci r _ HRD.out rfl hrl).mono ?_
      rintro e w2 ⟨q, rfl, hq, hq2, g2, ho⟩
      have HK2 := Lib.hid (HK.out.step g2 hlt HX.out rfl (by omega) ho)
      have G2 := Lib.hid ((G0.out.trans g2).setCell (p := ⟨w.heap.size, k, none⟩) (Nat.le_refl _) (.slice (some ⟨q, 0, none⟩) r.length r.length))
      have HK1 := Lib.hid (HK.out.keep g2)
      have hf := own_frozen_of HK1.out.own k
      obtain ⟨u, hu⟩ := Option.isSome_iff_exists.1 (own_there HK1.out.own (o := k) (m := 1) (by omega) 0 (by omega)).1
      simp only [Nat.add_zero] at hu
      have hs2 := g2.size
      clear g2 ho hq hc
      dsimp only
      go_wp2
      go_roundw
      case rel => exact ⟨k + 1, _, by omega, by go_num, HK2, G2⟩
      case measure => simp [intOf]; omega
    · obtain rfl : k = n := by omega
      go_wp2
      go_ret
      exact ⟨xs, rfl, G0.out, hsz.2, HK.out.done Hn.out⟩

theorem szInt64S_G (A : Option Addr) (n c : Nat) (left : Int) (w : World) (hm : n ≤ 9223372036854775807) (h0 : 0 ≤ left) (h1 : left ≤ 4194304) :
    Calls Tryd.prog 36 #[.slice A n c, .int .i64 left] w fun e w' => e = .returned (.int .i64 (szR (left - n))) ∧ w = w' := by
  by_cases q : left - n < 0
  · have H := Lib.hid (szR_neg q)
    go_enter Tryd.func36, Tryd.ntmps36
    go_wp2
    go_ret
    exact ⟨ret_int H.out.symm, rfl⟩
  · have H := Lib.hid (szR_pos (y := left - n) (by omega))
    go_enter Tryd.func36, Tryd.ntmps36
    go_wp2
    go_ret
    exact ⟨ret_int H.out.symm, rfl⟩

set_option maxHeartbeats 1000000 in
theorem szInt64SS_any (A : Option Addr) (n c : Nat) (M : List (List Int)) (left : Int) (w : World) (hr : RdR w A M) (hn : M.length = n) (hwf : ∀ r ∈ M, r.length ≤ maxLen) (hm : n ≤ maxLen) (h0 : 0 ≤ left) (h1 : left ≤ 4194304) :
    Calls Tryd.prog 15 #[.slice A n c, .int .i64 left] w fun e w' => e = .returned (.int .i64 (szR (left - n - tot szRow M))) ∧ G w w' := by
  unfold maxLen at hm hwf
  have Hn := Lib.hid hn
  have HR := Lib.hid hr
  have HW := Lib.hid hwf
  have t0 := tot_nonneg szRow szRow_nonneg M
  clear hn hr hwf
  by_cases q : left - n < 0
  · have H := Lib.hid (show szR (left - n - tot szRow M) = -1 from szR_neg (by omega))
    go_enter Tryd.func15, Tryd.ntmps15
    go_wp2
    go_ret
    exact ⟨ret_int H.out.symm, G.refl _⟩
  go_enter Tryd.func15, Tryd.ntmps15
  go_wp2
  go_loopw [5, 1] (fun i v wr => ∃ (k : Nat) (y : Int), k ≤ n ∧ i = .int .i64 k ∧ v = .int .i64 y ∧ 0 ≤ y ∧ y ≤ left ∧ y = left - n - tot szRow (M.take k) ∧ G w wr) (fun i _ _ => n - (intOf i).toNat)
  case atStart => exact ⟨0, _, Nat.zero_le _, rfl, rfl, by omega, by omega, by simp [tot], G.refl _⟩
  case round =>
    obtain ⟨k, y, hk, rfl, rfl, hy0, hy1, hy, hg⟩ := hrel
    have HY := Lib.hid hy
    have HG := Lib.hid hg
    clear hy hg
    by_cases hlt : k < n
    · obtain ⟨b, o, r, Ai, ci, rfl, hx, _, hc, _⟩ := (HR.out.g HG.out).at_ (k := k) (by rw [Hn.out]; exact hlt)
      have hwx := HW.out r (List.mem_of_getElem? hx)
      have HX := Lib.hid (tot_snoc szRow hx)
      have HTk := Lib.hid (tot_take szRow szRow_nonneg M (k + 1))
      have HSR := Lib.hid (show szRow r = r.length from rfl)
      clear hx
      by_cases hy2 : y - r.length < 0
      · have H := Lib.hid (show szR (left - n - tot szRow M) = -1 from szR_neg (by have := HX.out; have := HTk.out; have := HY.out; have := HSR.out; omega))
        have HZ := Lib.hid (szR_neg hy2)
        go_wp2_with (go_at_call 36; refine (szInt64S_G Ai r.length ci y _ (by omega) (by omega) (by omega)).mono ?_; rintro e w2 ⟨rfl, rfl⟩; rw [HZ.out])
        go_ret
        exact ⟨ret_int H.out.symm, HG.out⟩
      · have HZ := Lib.hid (szR_pos (y := y - r.length) (by omega))
        go_wp2_with (go_at_call 36; refine (szInt64S_G Ai r.length ci y _ (by omega) (by omega) (by omega)).mono ?_; rintro e w2 ⟨rfl, rfl⟩; rw [HZ.out])
        go_roundw
        case rel => exact ⟨k + 1, _, by omega, by go_num, rfl, by omega, by omega, by have := HX.out; have := HY.out; have := HSR.out; omega, HG.out⟩
        case measure => simp [intOf]; omega
    · have H := Lib.hid (show szR (left - n - tot szRow M) = y by
        have hy := HY.out
        rw [List.take_of_length_le (by rw [Hn.out]; omega)] at hy
        rw [← hy]
        exact szR_pos hy0)
      go_wp2
      go_ret
      exact ⟨ret_int H.out.symm, HG.out⟩
end Go.Proofs.YtnnhffehboknnaaDoor
