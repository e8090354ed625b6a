/-
  Walks: ApplyGain, by both texts.
-/
import Derived.Test.YtmcddcdhppomkaaDoorGainFor
import Derived.Test.YtmcddcdhppomkaaDoorRes
import Derived.Deep.RegionHeld3
import Derived.Deep.AppendLies
import Derived.Deep.DrawnRows
namespace Go.Proofs.YtmcddcdhppomkaaDoor
open Go.RowKit
attribute [local go_sem ↓] Go.wp_at_zero Go.wp_at_succ

def clipV (n : Int) : Int := max (-32767) (min 32767 n)
def apG (g x : Int) : Int := clipV (near (x * gf g) 1000000)
def apL (L : List Int) (g : Int) : List Int := L.map (apG g)
def apR (L : List Int) (g : Int) : List Int × Int := if vs L = false then ([], 1) else if inB g (-6000) 600 = false then ([], 2) else (apL L g, 0)
theorem apL_len (L : List Int) (g : Int) : (apL L g).length = L.length := by simp [apL]
theorem apR_len (L : List Int) (g : Int) : (apR L g).1.length ≤ 512 := by
  unfold apR
  split
  · simp
  · split
    · simp
    · rename_i h _
      have := vs_all (L := L) (by simpa using h)
      simp only [apL_len]; omega
theorem mul_bd2 {x y X Y : Int} (hx : -X ≤ x ∧ x ≤ X) (hy : -Y ≤ y ∧ y ≤ Y) : -(X * Y) ≤ x * y ∧ x * y ≤ X * Y := by
  by_cases h : 0 ≤ y
  · exact mul_bd hx ⟨h, hy.2⟩
  · have h1 := mul_bd (X := X) (Y := Y) (x := x) (y := -y) hx ⟨by omega, by omega⟩
    rw [Int.mul_neg] at h1
    omega

set_option maxHeartbeats 400000 in
theorem clip_any (n : Int) (w : World) :
    Calls Tryd.prog 24 #[.int .i64 n] w fun e w' => e = .returned (.int .i64 (clipV n)) ∧ w = w' := by
  go_enter Tryd.func24, Tryd.ntmps24
  go_wp2
  go_ret
  exact ⟨rfl, rfl⟩
set_option maxRecDepth 20000 in
set_option maxHeartbeats 4000000 in
theorem iApplyGain_any (A : Option Addr) (n c : Nat) (L : List Int) (g : Int) (w : World) (hr : Rd w A 1 iv L) (hn : L.length = n) (hb : n ≤ 4194304) :
    Calls Tryd.prog 6 #[.slice A n c, .int .i64 g] w (Res w 2 1 iv (apR L g)) := by
  obtain ⟨i0, hi, hz0, hz1, hz2⟩ := info_parts infoInt
  have HI := Lib.hid (And.intro hi (And.intro hz0 (And.intro hz1 hz2)))
  clear hi hz0 hz1 hz2
  have K := Lib.hid (validSamples_any A n c L w hr hn hb)
  have Hn := Lib.hid hn
  have HR := Lib.hid hr
  clear hr hn
  cases hv : vs L
  · have H := Lib.hid (show apR L g = ([], 1) by unfold apR; rw [if_pos hv])
    rw [hv] at K
    clear hv
    go_enter Tryd.func6, Tryd.ntmps6
    go_wp2_with (go_at_call 21; refine K.out.mono ?_; rintro e w1 ⟨rfl, rfl⟩)
    go_ret2
    exact res_nil H.out (G.refl _)
  rw [hv] at K
  have HV := Lib.hid hv
  have HF := Lib.hid (show apR L g = if inB g (-6000) 600 = false then ([], 2) else (apL L g, 0) by unfold apR; rw [if_neg (by rw [hv]; simp)])
  have hn64 := (vs_all hv).1
  rw [Hn.out] at hn64
  clear hv
  cases hg : inB g (-6000) 600
  · have H := Lib.hid (show apR L g = ([], 2) by rw [HF.out, if_pos hg])
    go_enter Tryd.func6, Tryd.ntmps6
    go_wp2_with (first | (go_at_call 21; refine K.out.mono ?_; rintro e w1 ⟨rfl, rfl⟩) | (go_at_call 22; refine (isGain_any _ _).mono ?_; rintro e w' ⟨rfl, rfl⟩))
    go_ret2
    exact res_nil H.out (G.refl _)
  have H := Lib.hid (show apR L g = (apL L g, 0) by rw [HF.out, if_neg (by rw [hg]; simp)])
  have hgb := inB_iff.1 hg
  have hfb := gf_bd g hgb.1 hgb.2
  obtain ⟨f, HFG⟩ : ∃ f, Hid (gf g = f) := ⟨_, rfl⟩
  rw [HFG.out] at hfb
  have KF := Lib.hid (fun W => gainFactor_any g hgb.1 hgb.2 W)
  rw [HFG.out] at KF
  go_enter Tryd.func6, Tryd.ntmps6
  go_wp2_with (first | (go_at_call 21; refine K.out.mono ?_; rintro e w1 ⟨rfl, rfl⟩) | (go_at_call 22; refine (isGain_any _ _).mono ?_; rintro e w' ⟨rfl, rfl⟩) | (go_at_call 23; refine (KF.out _).mono ?_; rintro e w1 ⟨rfl, g1⟩; have G1 := Lib.hid g1; have s1 := g1.size; clear g1) | (refine wpList_make_full _ rfl _ _ 24 rfl w.heap.size 2 i0 (.int .i64 0) 1 Tryd.underlying24 HI.out.1 HI.out.2.1 HI.out.2.2.1 .i64 .i64 _ _ n rfl rfl rfl rfl (by rw [HI.out.2.2.2]; omega) (by unfold maxLen; omega) s1 ?_; intro w2 hown hgrow; have HO := Lib.hid hown; have HG := Lib.hid (G1.out.grown hgrow (by simp)); clear hown hgrow))
  clear K hg KF
  obtain ⟨B, HB⟩ : ∃ B, Hid (w1.heap.size = B) := ⟨_, rfl⟩
  have hB := HB.out
  simp only [hB] at HO s1 ⊢
  clear hB
  go_loopw [23] (fun i wr => ∃ (k : Nat) (xs : List Value), k ≤ n ∧ i = .int .i64 k ∧ wr.ownsRow w.heap.size 2 1 (.slice (some ⟨B, 0, none⟩) n n) n xs ∧ xs.take k = ((apL L g).take k).flatMap iv ∧ G w wr) (fun i _ => n - (intOf i).toNat)
  case atStart => exact ⟨0, _, Nat.zero_le _, rfl, HO.out, by simp, HG.out⟩
  case round =>
    obtain ⟨k, xs, hk, rfl, ho, ht, hg⟩ := hrel
    by_cases hlt : k < n
    · obtain ⟨b, o, x, rfl, hx, hc⟩ := (HR.out.G hg).int (k := k) (by rw [Hn.out]; exact hlt)
      have hxb := vs_at HV.out hx
      have hmb := mul_bd2 (x := x) (y := f) (X := 32767) (Y := 1900000000) hxb hfb
      obtain ⟨m, HM⟩ : ∃ m, Hid (x * f = m) := ⟨_, rfl⟩
      have hm := HM.out
      rw [hm] at hmb
      obtain ⟨q, HQ⟩ : ∃ q, Hid (near m 1000000 = q) := ⟨_, rfl⟩
      have HY := Lib.hid (show (apL L g)[k]? = some (clipV q) by rw [← HQ.out, ← hm, ← HFG.out]; exact map_at hx)
      obtain ⟨u, hu⟩ := Option.isSome_iff_exists.1 (own_there ho (o := k) (m := 1) (by omega) 0 (by omega)).1
      have hf := own_frozen_of ho k
      simp only [Nat.add_zero] at hu
      have HO1 := Lib.hid ho
      have HT := Lib.hid ht
      have HG0 := Lib.hid hg
      have K2 := Lib.hid (fun W => nearest_any m 1000000 (by omega) (by omega) (by omega) (by omega) W)
      rw [HQ.out] at K2
      obtain ⟨y, HY2⟩ : ∃ y, Hid (clipV q = y) := ⟨_, rfl⟩
      have K3 := Lib.hid (fun W => clip_any q W)
      rw [HY2.out] at K3 HY
      clear ho hx ht hg
      go_wp2_with (first | (go_at_call 25; refine (K2.out _).mono ?_; rintro e w' ⟨rfl, n1, rfl⟩) | (go_at_call 24; refine (K3.out _).mono ?_; rintro e w' ⟨rfl, rfl⟩))
      go_roundw
      case rel => exact ⟨k + 1, _, by omega, by go_num, (World.ownsRow.stored (w := wr.drewN n1) HO1.out k (.int .i64 y)).1, flat_put HO1.out.1 hlt HT.out HY.out, (HG0.out.drewN n1).setCell (p := ⟨B, k, none⟩) (by simp only; omega) (.int .i64 y)⟩
      case measure => simp [intOf]; omega
    · have hkn : k = n := by omega
      have HT := Lib.hid ht
      have HG2 := Lib.hid hg
      have HO2 := Lib.hid ho
      clear ht hg ho
      go_wp2
      go_ret2
      have h1 := HO2.out
      rw [flat_all (M := apL L g) (f := iv) h1.1 hkn (by rw [apL_len, Hn.out]) (by rw [Nat.mul_one]; exact HT.out)] at h1
      exact res_own H.out (by rw [apL_len, Hn.out]) h1 HG2.out

end Go.Proofs.YtmcddcdhppomkaaDoor
