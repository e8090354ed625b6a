/-
  Walks: DimLevels, by both texts.
-/
import Derived.Test.YtckenipmebeopaaLevels
import Derived.Test.YtckenipmebeopaaRes
namespace Go.Proofs.Ytckenipmebeopaa
open Go.RowKit

def dimL (L : List Int) (s : Int) : List Int := L.map fun x => near (x * s) 1000
def dimR (L : List Int) (s : Int) : List Int × Int := if lvs L = false then ([], 2) else if inB s 0 1000 = false then ([], 2) else (dimL L s, 0)
theorem dimL_len (L : List Int) (s : Int) : (dimL L s).length = L.length := by simp [dimL]
theorem dim_mul {x s : Int} (h0 : 0 ≤ x) (h1 : x ≤ 255) (s0 : 0 ≤ s) (s1 : s ≤ 1000) : 0 ≤ x * s ∧ x * s ≤ 255000 := by
  refine ⟨Int.mul_nonneg h0 s0, ?_⟩
  have h2 := Int.mul_le_mul_of_nonneg_right h1 s0
  omega
theorem dimR_len (L : List Int) (s : Int) : (dimR L s).1.length ≤ 512 := by
  unfold dimR
  split
  · simp
  · split
    · simp
    · rename_i h _
      have := lvs_all (L := L) (by simpa using h)
      simp only [dimL_len]; omega

set_option maxRecDepth 20000 in
set_option maxHeartbeats 2000000 in
theorem iDimLevels_any (A : Option Addr) (n c : Nat) (L : List Int) (s : Int) (w : World) (hr : Rd w A 1 iv L) (hn : L.length = n) (hb : n ≤ 4194304) :
    Calls Try.prog 10 #[.slice A n c, .int .i64 s] w (Res w 2 1 iv (dimR L s)) := by
  obtain ⟨i0, hi, hz0, hz1, hz2⟩ := info_parts infoInt
  have K := Lib.hid (areLevels_any A n c L w hr hn hb)
  cases hs : inB s 0 1000
  · have H := Lib.hid (show dimR L s = ([], 2) by cases h : lvs L <;> simp [dimR, h, hs])
    clear hi hz0 hz1 hz2 hr hn
    go_enter Try.func10, Try.ntmps10
    go_wp2_with (first | (go_at_call 26; refine (within_any _ _ _ _).mono ?_; rintro e w' ⟨rfl, rfl⟩))
    go_ret2
    exact res_nil H.out (G.refl _)
  cases hv : lvs L
  · have H := Lib.hid (show dimR L s = ([], 2) by unfold dimR; rw [if_pos hv])
    rw [hv] at K
    clear hi hz0 hz1 hz2 hr hn hv
    go_enter Try.func10, Try.ntmps10
    go_wp2_with (first | (go_at_call 27; refine K.out.mono ?_; rintro e w1 ⟨rfl, rfl⟩) | (go_at_call 26; refine (within_any _ _ _ _).mono ?_; rintro e w' ⟨rfl, rfl⟩))
    go_ret2
    exact res_nil H.out (G.refl _)
  have H := Lib.hid (show dimR L s = (dimL L s, 0) by unfold dimR; rw [if_neg (by rw [hv]; simp), if_neg (by rw [hs]; simp)])
  have HV := Lib.hid hv
  have hn512 := (lvs_all hv).1
  rw [hn] at hn512
  have hsb := inB_iff.1 hs
  rw [hv] at K
  have Hn := Lib.hid hn
  have HR := Lib.hid hr
  clear hr hn hv
  go_enter Try.func10, Try.ntmps10
  go_wp2_with (first | (go_at_call 27; refine K.out.mono ?_; rintro e w1 ⟨rfl, rfl⟩) | (go_at_call 26; refine (within_any _ _ _ _).mono ?_; rintro e w' ⟨rfl, rfl⟩) | (refine wpList_make_full _ rfl _ _ 28 rfl w.heap.size 2 i0 (.int .i64 0) 1 Try.underlying28 hi hz0 hz1 .i64 .i64 _ _ n rfl rfl rfl rfl (by rw [hz2]; omega) (by unfold maxLen; omega) (Nat.le_refl _) ?_; intro w1 hown hgrow; have HO := Lib.hid hown; have HG := Lib.hid ((G.refl w).grown hgrow (by simp)); clear hown hgrow hi hz0 hz1 hz2))
  clear K hs
  go_loopw [22] (fun i wr => ∃ (k : Nat) (xs : List Value), k ≤ n ∧ i = .int .i64 k ∧ wr.ownsRow w.heap.size 2 1 (.slice (some ⟨w.heap.size, 0, none⟩) n n) n xs ∧ xs.take k = ((dimL L s).take k).flatMap iv ∧ G w wr) (fun i _ => n - (intOf i).toNat)
  case atStart => exact ⟨0, _, Nat.zero_le _, rfl, HO.out, by simp, HG.out⟩
  case round =>
    obtain ⟨k, xs, hk, rfl, ho, ht, hg⟩ := hrel
    by_cases hlt : k < n
    · obtain ⟨b, o, x, rfl, hx, hc⟩ := (HR.out.G hg).int (k := k) (by rw [Hn.out]; exact hlt)
      have hxb := lvs_at HV.out hx
      have hmb := dim_mul hxb.1 hxb.2 hsb.1 hsb.2
      obtain ⟨y, HYE⟩ : ∃ y, Hid (near (x * s) 1000 = y) := ⟨_, rfl⟩
      have HY := Lib.hid (show (dimL L s)[k]? = some y by rw [← HYE.out]; exact map_at hx)
      obtain ⟨u, hu⟩ := Option.isSome_iff_exists.1 (own_there ho (o := k) (m := 1) (by omega) 0 (by omega)).1
      have hf := own_frozen_of ho k
      simp only [Nat.add_zero] at hu
      have HO1 := Lib.hid ho
      have HT := Lib.hid ht
      have HG0 := Lib.hid hg
      obtain ⟨m, HM⟩ : ∃ m, Hid (x * s = m) := ⟨_, rfl⟩
      have hm := HM.out
      rw [hm] at hmb
      have K2 := Lib.hid (nearest_any m 1000 (by omega) (by omega) (by omega) (by omega) wr)
      have HYE2 := HYE.out
      rw [hm] at HYE2
      rw [HYE2] at K2
      clear ho hx ht hg HYE2
      go_wp2_with (go_at_call 28; refine K2.out.mono ?_; rintro e w' ⟨rfl, n1, rfl⟩)
      go_roundw
      case rel => exact ⟨k + 1, _, by omega, by go_num, (World.ownsRow.stored (w := wr.drewN n1) HO1.out k (.int .i64 y)).1, flat_put HO1.out.1 hlt HT.out HY.out, (HG0.out.drewN n1).setCell (p := ⟨w.heap.size, k, none⟩) (Nat.le_refl _) (.int .i64 y)⟩
      case measure => simp [intOf]; omega
    · have hkn : k = n := by omega
      have HT := Lib.hid ht
      have HG2 := Lib.hid hg
      have HO2 := Lib.hid ho
      clear ht hg ho
      go_wp2
      go_ret2
      have h1 := HO2.out
      rw [flat_all (M := dimL L s) (f := iv) h1.1 hkn (by rw [dimL_len, Hn.out]) (by rw [Nat.mul_one]; exact HT.out)] at h1
      exact res_own H.out (by rw [dimL_len, Hn.out]) h1 HG2.out

end Go.Proofs.Ytckenipmebeopaa
