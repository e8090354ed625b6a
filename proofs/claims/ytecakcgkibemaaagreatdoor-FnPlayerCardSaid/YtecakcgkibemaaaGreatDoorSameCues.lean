/-
  Walks: slices of cues compared, by both texts.
-/
import Derived.Test.YtecakcgkibemaaaGreatDoorSameCue
import Derived.Test.YtecakcgkibemaaaGreatDoorCues
namespace Go.Proofs.YtecakcgkibemaaaGreatDoor
open Go.RowKit

def sameAt (L M : List SCue) (i : Nat) : Bool := match L[i]?, M[i]? with
  | some x, some y => sameC x y
  | _, _ => false
def sameLs (L M : List SCue) : Bool := decide (L.length = M.length) && (List.range L.length).all (sameAt L M)
theorem sameLs_no {L M : List SCue} {k : Nat} {x y : SCue} (hx : L[k]? = some x) (hy : M[k]? = some y) (h : sameC x y = false) : sameLs L M = false := by
  cases hv : sameLs L M
  · rfl
  · simp only [sameLs, Bool.and_eq_true] at hv
    have := List.all_eq_true.1 hv.2 k (List.mem_range.2 (List.getElem?_eq_some_iff.1 hx).1)
    simp only [sameAt, hx, hy, h] at this
    cases this

set_option maxRecDepth 20000 in
set_option maxHeartbeats 2000000 in
theorem l13Same_any (A B : Option Addr) (n c m d : Nat) (L M : List SCue) (w : World) (hr : Rd w A 6 cCue L) (hn : L.length = n) (hb : n ≤ 4194304) (hr2 : Rd w B 6 cCue M) (hn2 : M.length = m) (hb2 : m ≤ 4194304) :
    Calls Tryz.prog 22 #[.slice A n c, .slice B m d] w fun e w' => e = .returned (.bool (sameLs L M)) ∧ G w w' := by
  have Hn := Lib.hid hn
  have Hm := Lib.hid hn2
  have HR := Lib.hid hr
  have HR2 := Lib.hid hr2
  by_cases hnm : n = m
  case neg =>
    have H := Lib.hid (show sameLs L M = false by unfold sameLs; rw [hn, hn2]; simp [hnm])
    clear hr hn hr2 hn2
    go_enter Tryz.func22, Tryz.ntmps22
    go_wp2
    go_ret
    exact ⟨ret_bool H.out.symm, G.refl _⟩
  subst hnm
  clear hr hn hr2 hn2
  go_enter Tryz.func22, Tryz.ntmps22
  go_wp2
  go_loopw [5] (fun i wr => ∃ k : Nat, k ≤ n ∧ i = .int .i64 k ∧ (List.range k).all (sameAt L M) = true ∧ G w wr) (fun i _ => n - (intOf i).toNat)
  case atStart => exact ⟨0, Nat.zero_le _, rfl, rfl, G.refl _⟩
  case round =>
    obtain ⟨k, hk, rfl, ha, hg⟩ := hrel
    have HA := Lib.hid ha
    have G0 := Lib.hid hg
    clear ha hg
    by_cases hlt : k < n
    · obtain ⟨b, o, x, rfl, hx, hc0, hc1, hc2, hc3, hc4, hc5⟩ := (HR.out.G G0.out).Cue (k := k) (by rw [Hn.out]; exact hlt)
      obtain ⟨b2, o2, y, rfl, hy, hd0, hd1, hd2, hd3, hd4, hd5⟩ := (HR2.out.G G0.out).Cue (k := k) (by rw [Hm.out]; exact hlt)
      have gc0 := cellR hc0
      have gd0 := cellR hd0
      have gc1 := cellR hc1
      have gd1 := cellR hd1
      have gc2 := cellR hc2
      have gd2 := cellR hd2
      have gc3 := cellR hc3
      have gd3 := cellR hd3
      have gc4 := cellR hc4
      have gd4 := cellR hd4
      have gc5 := cellR hc5
      have gd5 := cellR hd5
      have hlt2 : (k : Int) < (n : Int) := by omega
      have hk0 : 0 ≤ (k : Int) := by omega
      have hq := neqCue x y
      have HX := Lib.hid hx
      have HY := Lib.hid hy
      clear hx hy hc0 hd0 hc1 hd1 hc2 hd2 hc3 hd3 hc4 hd4 hc5 hd5
      cases hv : sameC x y
      · have H := Lib.hid (sameLs_no HX.out HY.out hv)
        rw [hv] at hq
        clear hv
        go_wp2
        refine region_quiet_G (by kernel_rfl) (by kernel_rfl) ?_; (repeat (go_big_quiet_step ((fail)))); refine wpQuiet_nil ?_
        intro w2 g2
        have G2 := Lib.hid (G0.out.trans g2)
        clear g2 hq gc0 gd0 gc1 gd1 gc2 gd2 gc3 gd3 gc4 gd4 gc5 gd5
        go_wp2
        go_ret
        exact ⟨ret_bool H.out.symm, G2.out⟩
      · have H := Lib.hid (show (List.range (k + 1)).all (sameAt L M) = true by rw [List.range_succ, List.all_append, HA.out]; simp [sameAt, HX.out, HY.out, hv])
        rw [hv] at hq
        clear hv
        go_wp2
        refine region_quiet_G (by kernel_rfl) (by kernel_rfl) ?_; (repeat (go_big_quiet_step ((fail)))); refine wpQuiet_nil ?_
        intro w2 g2
        have G2 := Lib.hid (G0.out.trans g2)
        clear g2 hq gc0 gd0 gc1 gd1 gc2 gd2 gc3 gd3 gc4 gd4 gc5 gd5
        go_wp2
        go_roundw
        case rel => exact ⟨k + 1, by omega, by go_num, H.out, G2.out⟩
        case measure => simp [intOf]; omega
    · have H := Lib.hid (show sameLs L M = true by unfold sameLs; rw [Hn.out, Hm.out, show n = k by omega, HA.out]; simp)
      go_wp2
      go_ret
      exact ⟨ret_bool H.out.symm, G0.out⟩
end Go.Proofs.YtecakcgkibemaaaGreatDoor
