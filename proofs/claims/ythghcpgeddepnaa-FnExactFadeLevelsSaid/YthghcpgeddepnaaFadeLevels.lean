/-
  Walks: FadeLevels, by both texts.
-/
import Derived.Test.YthghcpgeddepnaaLevels
import Derived.Test.YthghcpgeddepnaaRes
import Derived.Deep.RegionHeld3
import Derived.Deep.AppendLies
import Derived.Deep.DrawnRows
namespace Go.Proofs.Ythghcpgeddepnaa
open Go.RowKit
attribute [local go_sem ↓] Go.wp_at_zero Go.wp_at_succ

def fd (a b s : Int) : Int := a + near ((b - a) * s) 1000
def fadeL (L M : List Int) (s : Int) : List Int := (List.range L.length).map fun i => fd (L[i]?.getD 0) (M[i]?.getD 0) s
def fadeR (L M : List Int) (s : Int) : List Int × Int := if inB s 0 1000 = true ∧ lvs L = true ∧ lvs M = true ∧ L.length = M.length then (fadeL L M s, 0) else ([], 2)
theorem fadeL_len (L M : List Int) (s : Int) : (fadeL L M s).length = L.length := by simp [fadeL]
theorem fadeL_at {L M : List Int} {s : Int} {k : Nat} {x y : Int} (hx : L[k]? = some x) (hy : M[k]? = some y) : (fadeL L M s)[k]? = some (fd x y s) := by
  have hk := (List.getElem?_eq_some_iff.1 hx).1
  unfold fadeL
  rw [List.getElem?_map, List.getElem?_range hk]
  simp [hx, hy]
theorem fadeR_len (L M : List Int) (s : Int) : (fadeR L M s).1.length ≤ 512 := by
  unfold fadeR
  split
  · rename_i h
    have := lvs_all h.2.1
    simp only [fadeL_len]; omega
  · simp
theorem fade_mul {x y s : Int} (h0 : 0 ≤ x) (h1 : x ≤ 255) (h2 : 0 ≤ y) (h3 : y ≤ 255) (s0 : 0 ≤ s) (s1 : s ≤ 1000) : -255000 ≤ (y - x) * s ∧ (y - x) * s ≤ 255000 := by
  have a1 : (y - x) * s ≤ 255 * s := Int.mul_le_mul_of_nonneg_right (by omega) s0
  have a2 : (-255) * s ≤ (y - x) * s := Int.mul_le_mul_of_nonneg_right (by omega) s0
  omega

set_option maxHeartbeats 400000 in
theorem l04Share_any (a b s : Int) (ha0 : 0 ≤ a) (ha1 : a ≤ 255) (hb0 : 0 ≤ b) (hb1 : b ≤ 255) (hs0 : 0 ≤ s) (hs1 : s ≤ 1000) (w : World) :
    Calls Try.prog 62 #[.int .i64 a, .int .i64 b, .int .i64 s] w fun e w' => e = .returned (.int .i64 (fd a b s)) ∧ w = w' := by
  have hm := fade_mul ha0 ha1 hb0 hb1 hs0 hs1
  obtain ⟨m, HM⟩ : ∃ m, Hid ((b - a) * s = m) := ⟨_, rfl⟩
  have hm2 := HM.out
  rw [hm2] at hm
  have hn := near_bd (a := m) (b := 1000) (A := 255000) (by omega) hm
  have K := Lib.hid (l01Div_any m 1000 (by omega) (by omega) (by omega) (by omega) w)
  obtain ⟨q, HQ⟩ : ∃ q, Hid (near m 1000 = q) := ⟨_, rfl⟩
  rw [HQ.out] at K hn
  have H := Lib.hid (show fd a b s = a + q by unfold fd; rw [hm2, HQ.out])
  go_enter Try.func62, Try.ntmps62
  go_wp2_with (go_at_call 59; with_reducible refine K.out.mono ?_; rintro e w' ⟨rfl, rfl⟩)
  go_ret
  exact ⟨ret_int H.out.symm, rfl⟩

set_option maxRecDepth 20000 in
set_option maxHeartbeats 2000000 in
theorem sFadeLevels_any (A : Option Addr) (n c : Nat) (L : List Int) (B : Option Addr) (n2 c2 : Nat) (M : List Int) (s : Int) (w : World) (hr : Rd w A 1 iv L) (hn : L.length = n) (hb : n ≤ 4194304) (hr2 : Rd w B 1 iv M) (hn2 : M.length = n2) (hb2 : n2 ≤ 4194304) :
    Calls Try.prog 26 #[.slice A n c, .slice B n2 c2, .int .i64 s] w (Res w 2 1 iv (fadeR L M s)) := by
  obtain ⟨i0, hi, hz0, hz1, hz2⟩ := info_parts infoInt
  have HI := Lib.hid (And.intro hi (And.intro hz0 (And.intro hz1 hz2)))
  clear hi hz0 hz1 hz2
  have K := Lib.hid (l20Levels_any A n c L w hr hn hb)
  have K2 := Lib.hid (l20Levels_any B n2 c2 M w hr2 hn2 hb2)
  have Hn := Lib.hid hn
  have HR := Lib.hid hr
  have Hn2 := Lib.hid hn2
  have HR2 := Lib.hid hr2
  clear hr hn hr2 hn2
  by_cases hne : n = n2
  case neg =>
    have H := Lib.hid (show fadeR L M s = ([], 2) by unfold fadeR; rw [if_neg]; rintro ⟨_, _, _, h⟩; rw [Hn.out, Hn2.out] at h; exact hne h)
    obtain ⟨b1, H1⟩ : ∃ x, Hid (lvs L = x) := ⟨_, rfl⟩
    obtain ⟨b2, H2⟩ : ∃ x, Hid (lvs M = x) := ⟨_, rfl⟩
    obtain ⟨b3, H3⟩ : ∃ x, Hid (inB s 0 1000 = x) := ⟨_, rfl⟩
    have K3 := Lib.hid (l00In_any s 0 1000 w)
    rw [H1.out] at K
    rw [H2.out] at K2
    rw [H3.out] at K3
    clear H1 H2 H3
    cases b1 <;> cases b2 <;> cases b3
    all_goals
      go_enter Try.func26, Try.ntmps26
      go_wp2_with (first | (go_at_call 57; with_reducible refine K.out.mono ?_; rintro e w1 ⟨rfl, rfl⟩) | (go_at_call 57; with_reducible refine K2.out.mono ?_; rintro e w1 ⟨rfl, rfl⟩) | (go_at_call 58; refine K3.out.mono ?_; rintro e w1 ⟨rfl, rfl⟩))
      go_ret2
      exact res_nil H.out (G.refl _)
  subst hne
  by_cases hok : inB s 0 1000 = true ∧ lvs L = true ∧ lvs M = true
  case neg =>
    have H := Lib.hid (show fadeR L M s = ([], 2) by unfold fadeR; rw [if_neg]; rintro ⟨h1, h2, h3, _⟩; exact hok ⟨h1, h2, h3⟩)
    obtain ⟨b1, H1⟩ : ∃ x, Hid (lvs L = x) := ⟨_, rfl⟩
    obtain ⟨b2, H2⟩ : ∃ x, Hid (lvs M = x) := ⟨_, rfl⟩
    obtain ⟨b3, H3⟩ : ∃ x, Hid (inB s 0 1000 = x) := ⟨_, rfl⟩
    have K3 := Lib.hid (l00In_any s 0 1000 w)
    rw [H1.out] at K hok
    rw [H2.out] at K2 hok
    rw [H3.out] at K3 hok
    clear H1 H2 H3
    cases b1 <;> cases b2 <;> cases b3 <;> first
      | exact absurd ⟨rfl, rfl, rfl⟩ hok
      | skip
    all_goals
      clear hok
      go_enter Try.func26, Try.ntmps26
      go_wp2_with (first | (go_at_call 57; with_reducible refine K.out.mono ?_; rintro e w1 ⟨rfl, rfl⟩) | (go_at_call 57; with_reducible refine K2.out.mono ?_; rintro e w1 ⟨rfl, rfl⟩) | (go_at_call 58; refine K3.out.mono ?_; rintro e w1 ⟨rfl, rfl⟩))
      go_ret2
      exact res_nil H.out (G.refl _)
  obtain ⟨hs, hv, hv2⟩ := hok
  have H := Lib.hid (show fadeR L M s = (fadeL L M s, 0) by unfold fadeR; rw [if_pos ⟨hs, hv, hv2, by rw [Hn.out, Hn2.out]⟩])
  have HV := Lib.hid hv
  have HV2 := Lib.hid hv2
  have hn512 := (lvs_all hv).1
  rw [Hn.out] at hn512
  have hsb := inB_iff.1 hs
  have K3 := Lib.hid (l00In_any s 0 1000 w)
  rw [hs] at K3
  rw [hv] at K
  rw [hv2] at K2
  clear hs hv hv2
  go_enter Try.func26, Try.ntmps26
  go_wp2_with (first | (go_at_call 57; with_reducible refine K.out.mono ?_; rintro e w1 ⟨rfl, rfl⟩) | (go_at_call 57; with_reducible refine K2.out.mono ?_; rintro e w1 ⟨rfl, rfl⟩) | (go_at_call 58; refine K3.out.mono ?_; rintro e w1 ⟨rfl, rfl⟩))
  clear K K2 K3
  go_loopw [8, 9] (fun v i wr => ∃ (k : Nat), k ≤ n ∧ i = .int .i64 k ∧ wr.ownsRow w.heap.size 2 1 v k (((fadeL L M s).take k).flatMap iv) ∧ G w wr) (fun _ i _ => n - (intOf i).toNat)
  case atStart => exact ⟨0, Nat.zero_le _, rfl, World.ownsRow_lit (size := 1) _ #[] 0 (Nat.le_refl _) (by unfold maxLen; omega) rfl, (G.refl _).alloc _⟩
  case round =>
    obtain ⟨k, hk, rfl, ho, hg⟩ := hrel
    have HO1 := Lib.hid ho
    have G0 := Lib.hid hg
    have hsz := hg.size
    clear ho hg
    by_cases hlt : k < n
    · obtain ⟨b, o, x, rfl, hx, hcw⟩ := HR.out.int (k := k) (by rw [Hn.out]; exact hlt)
      obtain ⟨b2, o2, y, rfl, hy, hcw2⟩ := HR2.out.int (k := k) (by rw [Hn2.out]; exact hlt)
      have hc := G0.out.cell hcw
      have hc2 := G0.out.cell hcw2
      have HC := Lib.hid hcw
      have HC2 := Lib.hid hcw2
      clear hcw hcw2
      have hxb := lvs_at HV.out hx
      have hyb := lvs_at HV2.out hy
      obtain ⟨z, HZ⟩ : ∃ z, Hid (fd x y s = z) := ⟨_, rfl⟩
      have HY := Lib.hid (show (fadeL L M s)[k]? = some z by rw [← HZ.out]; exact fadeL_at hx hy)
      have K4 := Lib.hid (fun W => l04Share_any x y s hxb.1 hxb.2 hyb.1 hyb.2 hsb.1 hsb.2 W)
      rw [HZ.out] at K4
      have hlt2 : (k : Int) < (n : Int) := by omega
      have hk0 : 0 ≤ (k : Int) := by omega
      clear hx hy
      go_wp2
      go_region_held3 (fun w' => w'.cell? ⟨b, o + k, none⟩ = some (.int .i64 x) ∧ w'.cell? ⟨b2, o2 + k, none⟩ = some (.int .i64 y)) (first | go_keep | exact ⟨G9.out.cell HC.out, G9.out.cell HC2.out⟩) (first | (go_at_call 62; refine (K4.out _).mono ?_; rintro e w' ⟨rfl, rfl⟩) | (refine step_append_lies _ (by rfl) (.tmp 37) (.tmp 48) 32 (by rfl) w.heap.size 2 i0 (.int .i64 0) 1 8 Try.underlying32 HI.out.1 HI.out.2.1 HI.out.2.2.1 HI.out.2.2.2 rfl (by decide) _ k _ (by rfl) (World.ownsRow.alloc (World.ownsRow.drew HO1.out) _) ⟨wr.heap.size, 0, none⟩ 1 1 [.int .i64 z] (by rfl) rfl (block_news _ [.int .i64 z] _) (int_oneCell z) (by decide) (by unfold maxLen; omega) (by omega) (by simp; omega) (wr.heap.size + 1) (by simp) ?_; intro g cap w1 hown' hgrow _ _; have HO2 := Lib.hid hown'; have G9 := Lib.hid (((G0.out.drew).alloc _).grown hgrow (own_block_of HO1.out)); clear hown' hgrow))
      go_wp2
      go_roundw
      case rel => exact ⟨k + 1, by omega, by go_num, (flat_snoc HY.out) ▸ HO2.out, G9.out⟩
      case measure => simp [intOf]; omega
    · have hkn : k = n := by omega
      go_wp2
      go_ret2
      have h1 := HO1.out
      rw [List.take_of_length_le (by rw [fadeL_len, Hn.out]; omega)] at h1
      exact res_own H.out (by rw [fadeL_len, Hn.out, hkn]) h1 G0.out

set_option maxRecDepth 20000 in
set_option maxHeartbeats 2000000 in
theorem iFadeLevels_any (A : Option Addr) (n c : Nat) (L : List Int) (B : Option Addr) (n2 c2 : Nat) (M : List Int) (s : Int) (w : World) (hr : Rd w A 1 iv L) (hn : L.length = n) (hb : n ≤ 4194304) (hr2 : Rd w B 1 iv M) (hn2 : M.length = n2) (hb2 : n2 ≤ 4194304) :
    Calls Try.prog 27 #[.slice A n c, .slice B n2 c2, .int .i64 s] w (Res w 2 1 iv (fadeR L M s)) := by
  obtain ⟨i0, hi, hz0, hz1, hz2⟩ := info_parts infoInt
  have HI := Lib.hid (And.intro hi (And.intro hz0 (And.intro hz1 hz2)))
  clear hi hz0 hz1 hz2
  have K := Lib.hid (areLevels_any A n c L w hr hn hb)
  have K2 := Lib.hid (areLevels_any B n2 c2 M w hr2 hn2 hb2)
  have Hn := Lib.hid hn
  have HR := Lib.hid hr
  have Hn2 := Lib.hid hn2
  have HR2 := Lib.hid hr2
  clear hr hn hr2 hn2
  by_cases hne : n = n2
  case neg =>
    have H := Lib.hid (show fadeR L M s = ([], 2) by unfold fadeR; rw [if_neg]; rintro ⟨_, _, _, h⟩; rw [Hn.out, Hn2.out] at h; exact hne h)
    obtain ⟨b1, H1⟩ : ∃ x, Hid (lvs L = x) := ⟨_, rfl⟩
    obtain ⟨b2, H2⟩ : ∃ x, Hid (lvs M = x) := ⟨_, rfl⟩
    obtain ⟨b3, H3⟩ : ∃ x, Hid (inB s 0 1000 = x) := ⟨_, rfl⟩
    have K3 := Lib.hid (within_any s 0 1000 w)
    rw [H1.out] at K
    rw [H2.out] at K2
    rw [H3.out] at K3
    clear H1 H2 H3
    cases b1 <;> cases b2 <;> cases b3
    all_goals
      go_enter Try.func27, Try.ntmps27
      go_wp2_with (first | (go_at_call 60; with_reducible refine K.out.mono ?_; rintro e w1 ⟨rfl, rfl⟩) | (go_at_call 60; with_reducible refine K2.out.mono ?_; rintro e w1 ⟨rfl, rfl⟩) | (go_at_call 54; refine K3.out.mono ?_; rintro e w1 ⟨rfl, rfl⟩))
      go_ret2
      exact res_nil H.out (G.refl _)
  subst hne
  by_cases hok : inB s 0 1000 = true ∧ lvs L = true ∧ lvs M = true
  case neg =>
    have H := Lib.hid (show fadeR L M s = ([], 2) by unfold fadeR; rw [if_neg]; rintro ⟨h1, h2, h3, _⟩; exact hok ⟨h1, h2, h3⟩)
    obtain ⟨b1, H1⟩ : ∃ x, Hid (lvs L = x) := ⟨_, rfl⟩
    obtain ⟨b2, H2⟩ : ∃ x, Hid (lvs M = x) := ⟨_, rfl⟩
    obtain ⟨b3, H3⟩ : ∃ x, Hid (inB s 0 1000 = x) := ⟨_, rfl⟩
    have K3 := Lib.hid (within_any s 0 1000 w)
    rw [H1.out] at K hok
    rw [H2.out] at K2 hok
    rw [H3.out] at K3 hok
    clear H1 H2 H3
    cases b1 <;> cases b2 <;> cases b3 <;> first
      | exact absurd ⟨rfl, rfl, rfl⟩ hok
      | skip
    all_goals
      clear hok
      go_enter Try.func27, Try.ntmps27
      go_wp2_with (first | (go_at_call 60; with_reducible refine K.out.mono ?_; rintro e w1 ⟨rfl, rfl⟩) | (go_at_call 60; with_reducible refine K2.out.mono ?_; rintro e w1 ⟨rfl, rfl⟩) | (go_at_call 54; refine K3.out.mono ?_; rintro e w1 ⟨rfl, rfl⟩))
      go_ret2
      exact res_nil H.out (G.refl _)
  obtain ⟨hs, hv, hv2⟩ := hok
  have H := Lib.hid (show fadeR L M s = (fadeL L M s, 0) by unfold fadeR; rw [if_pos ⟨hs, hv, hv2, by rw [Hn.out, Hn2.out]⟩])
  have HV := Lib.hid hv
  have HV2 := Lib.hid hv2
  have hn512 := (lvs_all hv).1
  rw [Hn.out] at hn512
  have hsb := inB_iff.1 hs
  have K3 := Lib.hid (within_any s 0 1000 w)
  rw [hs] at K3
  rw [hv] at K
  rw [hv2] at K2
  clear hs hv hv2
  obtain ⟨hi, hz0, hz1, hz2⟩ := HI.out
  go_enter Try.func27, Try.ntmps27
  go_wp2_with (first | (go_at_call 60; with_reducible refine K.out.mono ?_; rintro e w1 ⟨rfl, rfl⟩) | (go_at_call 60; with_reducible refine K2.out.mono ?_; rintro e w1 ⟨rfl, rfl⟩) | (go_at_call 54; refine K3.out.mono ?_; rintro e w1 ⟨rfl, rfl⟩) | (refine wpList_make_full _ rfl _ _ 32 rfl w.heap.size 2 i0 (.int .i64 0) 1 Try.underlying32 hi hz0 hz1 .i64 .i64 _ _ n rfl rfl rfl rfl (by rw [hz2]; omega) (by unfold maxLen; omega) (Nat.le_refl _) ?_; intro w1 hown hgrow; have HO := Lib.hid hown; have HG := Lib.hid ((G.refl w).grown hgrow (by simp)); clear hown hgrow hi hz0 hz1 hz2))
  clear K K2 K3 HI
  go_loopw [35] (fun i wr => ∃ (k : Nat) (xs : List Value), k ≤ n ∧ i = .int .i64 k ∧ wr.ownsRow w.heap.size 2 1 (.slice (some ⟨w.heap.size, 0, none⟩) n n) n xs ∧ xs.take k = ((fadeL L M s).take k).flatMap iv ∧ G w wr) (fun i _ => n - (intOf i).toNat)
  case atStart => exact ⟨0, _, Nat.zero_le _, rfl, HO.out, by simp, HG.out⟩
  case round =>
    obtain ⟨k, xs, hk, rfl, ho, ht, hg⟩ := hrel
    by_cases hlt : k < n
    · obtain ⟨b, o, x, rfl, hx, hcw⟩ := HR.out.int (k := k) (by rw [Hn.out]; exact hlt)
      obtain ⟨b2, o2, y, rfl, hy, hcw2⟩ := HR2.out.int (k := k) (by rw [Hn2.out]; exact hlt)
      have hc := hg.cell hcw
      have hc2 := hg.cell hcw2
      have NE := Lib.hid (show w.heap.size ≠ b by have := block_lt_of_cell hcw; simp only at this; omega)
      have NE2 := Lib.hid (show w.heap.size ≠ b2 by have := block_lt_of_cell hcw2; simp only at this; omega)
      clear hcw hcw2
      have hxb := lvs_at HV.out hx
      have hyb := lvs_at HV2.out hy
      obtain ⟨u, hu⟩ := Option.isSome_iff_exists.1 (own_there ho (o := k) (m := 1) (by omega) 0 (by omega)).1
      have hf := own_frozen_of ho k
      simp only [Nat.add_zero] at hu
      have HO1 := Lib.hid ho
      have HT := Lib.hid ht
      have HG0 := Lib.hid hg
      have hm := fade_mul hxb.1 hxb.2 hyb.1 hyb.2 hsb.1 hsb.2
      obtain ⟨m, HM⟩ : ∃ m, Hid ((y - x) * s = m) := ⟨_, rfl⟩
      have hm2 := HM.out
      rw [hm2] at hm
      have hn := near_bd (a := m) (b := 1000) (A := 255000) (by omega) hm
      obtain ⟨q, HQ⟩ : ∃ q, Hid (near m 1000 = q) := ⟨_, rfl⟩
      rw [HQ.out] at hn
      have K4 := Lib.hid (fun W => nearest_any m 1000 (by omega) (by omega) (by omega) (by omega) W)
      rw [HQ.out] at K4
      have HY := Lib.hid (show (fadeL L M s)[k]? = some (x + q) by rw [fadeL_at hx hy, fd, hm2, HQ.out])
      have hlt2 : (k : Int) < (n : Int) := by omega
      have hk0 : 0 ≤ (k : Int) := by omega
      clear hx hy ho ht hg
      go_wp2
      have e1 : IntKind.i64.wrap (y - x) = y - x := IntWalk.i64_in _ (by omega)
      have e2 : IntKind.i64.wrap m = m := IntWalk.i64_in _ (by omega)
      have e3 : IntKind.i64.wrap (x + q) = x + q := IntWalk.i64_in _ (by omega)
      go_region_held3 (fun w' => w'.cell? ⟨b, o + k, none⟩ = some (.int .i64 x) ∧ w'.cell? ⟨b2, o2 + k, none⟩ = some (.int .i64 y)) (first | go_keep | exact ⟨(World.cell?_setCell_far _ _ _ _ NE.out).trans hc, (World.cell?_setCell_far _ _ _ _ NE2.out).trans hc2⟩) (first | (go_at_call 61; (try simp only [e1, e2]); with_reducible refine (K4.out _).mono ?_; rintro e w' ⟨rfl, n1, rfl⟩))
      clear e1 e2 e3
      go_wp2
      go_roundw
      case rel => exact ⟨k + 1, _, by omega, by go_num, (World.ownsRow.stored (w := wr.drewN (1 + n1)) HO1.out k (.int .i64 (x + q))).1, flat_put HO1.out.1 hlt HT.out HY.out, (HG0.out.drewN (1 + n1)).setCell (p := ⟨w.heap.size, k, none⟩) (Nat.le_refl _) (.int .i64 (x + q))⟩
      case measure => simp [intOf]; omega
    · have hkn : k = n := by omega
      have HT := Lib.hid ht
      have HG2 := Lib.hid hg
      have HO2 := Lib.hid ho
      clear ht hg ho
      go_wp2
      go_ret2
      have h1 := HO2.out
      rw [flat_all (M := fadeL L M s) (f := iv) h1.1 hkn (by rw [fadeL_len, Hn.out]) (by rw [Nat.mul_one]; exact HT.out)] at h1
      exact res_own H.out (by rw [fadeL_len, Hn.out]) h1 HG2.out
end Go.Proofs.Ythghcpgeddepnaa
