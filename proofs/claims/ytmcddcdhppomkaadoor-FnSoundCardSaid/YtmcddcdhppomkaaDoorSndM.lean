/-
  Plain laws of sound: a gain of 0, the headroom, the loudness, a muted channel.
-/
import Derived.Test.YtmcddcdhppomkaaDoorMixRN
import Derived.Test.YtmcddcdhppomkaaDoorApplyGain
import Derived.Test.YtmcddcdhppomkaaDoorHeadroom
import Derived.Test.YtmcddcdhppomkaaDoorLoud
import Derived.Test.YtmcddcdhppomkaaDoorAudibleN
import Derived.Test.YtmcddcdhppomkaaDoorChM
namespace Go.Proofs.YtmcddcdhppomkaaDoor
open Go.RowKit

theorem near_id (x : Int) : near (x * 1000000) 1000000 = x := by
  by_cases h : x < 0
  · rw [near_neg (by omega)]; omega
  · rw [near_pos (by omega)]; omega
theorem apG_zero {x : Int} (h : -32767 ≤ x ∧ x ≤ 32767) : apG 0 x = x := by
  unfold apG clipV
  rw [gf_zero, near_id]
  omega
theorem apR_zero {L : List Int} (h : vs L = true) : apR L 0 = (L, 0) := by
  unfold apR
  rw [if_neg (by rw [h]; simp), if_neg (by rw [inB_mk ⟨by omega, by omega⟩]; simp)]
  congr 1
  unfold apL
  conv => rhs; rw [← List.map_id L]
  refine List.map_congr_left fun x hx => ?_
  obtain ⟨k, hk⟩ := List.mem_iff_getElem?.1 hx
  exact apG_zero (vs_at h hk)
theorem head_is {p : Int} (h0 : 0 ≤ p) (h1 : p ≤ 32767) : ∀ (n : Nat) (g : Int), 0 ≤ g → g ≤ 600 → g < n → (g < 600 → 32767 < near (p * gf (g + 1)) 1000000) → ∃ r, headN p n g = r ∧ 0 ≤ r ∧ r ≤ 600 ∧ near (p * gf r) 1000000 ≤ 32767 ∧ (r < 600 → 32767 < near (p * gf (r + 1)) 1000000)
  | 0, g, hg0, _, hn, _ => by omega
  | n + 1, g, hg0, hg1, hn, hup => by
    by_cases h : near (p * gf g) 1000000 > 32767
    · rw [headN_down h]
      have hg : g ≠ 0 := fun e => by
        rw [e, gf_zero, near_id] at h
        omega
      exact head_is h0 h1 n (g - 1) (by omega) (by omega) (by omega) (fun _ => by rw [show g - 1 + 1 = g by omega]; exact h)
    · rw [headN_stop h]
      exact ⟨g, rfl, hg0, hg1, by omega, hup⟩
theorem sq_le {x p : Int} (h : -p ≤ x) (h2 : x ≤ p) : x * x ≤ p * p := by
  have h0 : 0 ≤ p := by omega
  rcases Int.le_total 0 x with h3 | h3
  · exact Int.mul_le_mul h2 h2 h3 h0
  · have := Int.mul_le_mul (show -x ≤ p by omega) (show -x ≤ p by omega) (by omega) h0
    rwa [Int.neg_mul_neg] at this
theorem abs_peak (L : List Int) : ∀ x ∈ L, -(peakL L) ≤ x ∧ x ≤ peakL L := by
  have key : ∀ (L : List Int) (m : Int), (∀ x ∈ L, -(L.foldl (fun m x => max m (absI x)) m) ≤ x ∧ x ≤ L.foldl (fun m x => max m (absI x)) m) ∧ m ≤ L.foldl (fun m x => max m (absI x)) m := by
    intro L
    induction L with
    | nil => intro m; simp
    | cons y L ih =>
      intro m
      obtain ⟨i1, i2⟩ := ih (max m (absI y))
      simp only [List.foldl_cons]
      refine ⟨fun x hx => ?_, by omega⟩
      rcases List.mem_cons.1 hx with rfl | hx
      · generalize L.foldl (fun m x => max m (absI x)) (max m (absI x)) = F at i2
        unfold absI at i2
        split at i2 <;> omega
      · exact i1 x hx
  exact (key L 0).1
theorem sqL_le {p : Int} : ∀ (L : List Int), (∀ x ∈ L, -p ≤ x ∧ x ≤ p) → sqL L ≤ L.length * (p * p) := by
  have key : ∀ (L : List Int) (s : Int), (∀ x ∈ L, -p ≤ x ∧ x ≤ p) → L.foldl (fun s x => s + x * x) s ≤ s + L.length * (p * p) := by
    intro L
    induction L with
    | nil => intro s _; simp
    | cons y L ih =>
      intro s h
      have h1 := ih (s + y * y) (fun x hx => h x (List.mem_cons_of_mem _ hx))
      have h2 := sq_le (h y (by simp)).1 (h y (by simp)).2
      simp only [List.foldl_cons, List.length_cons]
      have e : ((L.length + 1 : Nat) : Int) * (p * p) = L.length * (p * p) + p * p := by
        rw [Int.natCast_add, Int.add_mul]; simp
      rw [e]
      omega
  intro L h
  have := key L 0 h
  unfold sqL
  omega
theorem rt_le {n : Nat} {p : Int} (h0 : 0 ≤ p) (h : (n : Int) ≤ p * p) : ((rtN n : Nat) : Int) ≤ p := by
  have h1 := (rtN_is n).1
  rcases Int.lt_or_le p ((rtN n : Nat) : Int) with h2 | h2
  · exfalso
    have h3 : (p + 1) * (p + 1) ≤ ((rtN n : Nat) : Int) * ((rtN n : Nat) : Int) := Int.mul_le_mul (by omega) (by omega) (by omega) (by omega)
    have h4 : ((rtN n : Nat) : Int) * ((rtN n : Nat) : Int) ≤ (n : Int) := by exact_mod_cast h1
    have h5 : (p + 1) * (p + 1) = p * p + 2 * p + 1 := by rw [Int.add_mul, Int.mul_add, Int.mul_one, Int.one_mul]; omega
    omega
  · exact h2
theorem loud_law {L : List Int} (h : vs L = true) : (L = [] ∧ loudR L = (0, 6)) ∨ (L ≠ [] ∧ ∃ q : Int, loudR L = (q, 0) ∧ 0 ≤ q ∧ q ≤ peakL L) := by
  by_cases h0 : L = []
  · subst h0
    left
    exact ⟨rfl, by unfold loudR; rw [if_pos h]; rfl⟩
  · right
    have hl : L.length ≠ 0 := fun e => h0 (List.length_eq_zero_iff.1 e)
    have hp := peakL_bd (vs_all h).2
    have hq := loud_q (vs_all h).2 hl
    have hs := sqL_le L (abs_peak L)
    have hd : sqL L / L.length ≤ peakL L * peakL L := by
      refine Int.ediv_le_of_le_mul (by omega) ?_
      rw [Int.mul_comm]
      exact hs
    refine ⟨h0, ((rtN (sqL L / L.length).toNat : Nat) : Int), by unfold loudR; rw [if_pos h, if_neg hl], by omega, rt_le hp.1 ?_⟩
    rw [Int.toNat_of_nonneg hq.1]
    exact hd
theorem gf_300 : 0 ≤ gf (-300) ∧ gf (-300) ≤ 1000000 := by decide +kernel
/-- The first channel of the law. -/
def chA (p : Int) : SChannel := ⟨mkB [97], -300, p, false⟩
def chB : SChannel := ⟨mkB [98], 0, 0, true⟩
theorem mxV_le {s : Int → Int} (hs : ∀ p, -1000000 ≤ s p ∧ s p ≤ 1000000) (p x : Int) : -(max x (-x)) ≤ mxV s (chA p) x ∧ mxV s (chA p) x ≤ max x (-x) := by
  unfold mxV chA
  have g := gf_300
  have key : ∀ (y f B : Int), -B ≤ y → y ≤ B → -1000000 ≤ f → f ≤ 1000000 → -B ≤ near (y * f) 1000000 ∧ near (y * f) 1000000 ≤ B := fun y f B h1 h2 h3 h4 => by
    have := sd_mul (x := y) (y := f) (X := B) (Y := 1000000) ⟨h1, h2⟩ ⟨h3, h4⟩
    exact near_in (by omega) this.1 this.2
  have h1 := key x (gf (-300)) (max x (-x)) (by omega) (by omega) (by omega) g.2
  exact key _ (s p) (max x (-x)) h1.1 h1.2 (hs p).1 (hs p).2
theorem addP_zero {g : Int → Int} : ∀ L : List Int, addP g (List.replicate L.length 0) L = L.map g
  | [] => rfl
  | x :: L => by
    rw [List.length_cons, List.replicate_succ, List.map_cons, ← addP_zero L]
    show (0 + g x) :: _ = _
    rw [Int.zero_add]
theorem mostL_two (L : List Int) : mostL [L, L] = L.length ∧ mostL [L] = L.length := by
  unfold mostL
  constructor <;> simp
theorem mx_one (s : Int → Int) (p : Int) (L : List Int) : mxL s [chA p] [L] = L.map (fun x => clipN (mxV s (chA p) x)) := by
  unfold mxL
  rw [(mostL_two L).2]
  show ((mxStep s (List.replicate L.length 0) (chA p, L))).map clipN = _
  unfold mxStep
  rw [if_neg (by simp [chA])]
  show (addP (mxV s (chA p)) (List.replicate L.length 0) L).map clipN = _
  rw [addP_zero, List.map_map]
  rfl
theorem mx_two (s : Int → Int) (p : Int) (L : List Int) : mxL s [chA p, chB] [L, L] = mxL s [chA p] [L] := by
  unfold mxL
  rw [(mostL_two L).1, (mostL_two L).2]
  congr 1
theorem vcB_A {p : Int} (h0 : -1000 ≤ p) (h1 : p ≤ 1000) : vcB (chA p) = true := by
  unfold vcB
  have k : nameB (mkB [97]) = true := by decide +kernel
  rw [show nameB (chA p).Name = true from k, inB_mk (show -6000 ≤ (chA p).Gain ∧ (chA p).Gain ≤ 600 from ⟨(by decide : (-6000 : Int) ≤ -300), (by decide : (-300 : Int) ≤ 600)⟩), inB_mk (show -1000 ≤ (chA p).Pan ∧ (chA p).Pan ≤ 1000 from ⟨h0, h1⟩)]
  rfl
theorem vcB_B : vcB chB = true := by
  unfold vcB
  rw [show nameB chB.Name = true by decide +kernel, inB_mk (show -6000 ≤ chB.Gain ∧ chB.Gain ≤ 600 by decide), inB_mk (show -1000 ≤ chB.Pan ∧ chB.Pan ≤ 1000 by decide)]
  rfl
theorem vcs_one {p : Int} (h0 : -1000 ≤ p) (h1 : p ≤ 1000) : vcs [chA p] = true := by
  unfold vcs chk
  simp [List.range_succ, okAt, vcB_A h0 h1]
theorem vcs_two {p : Int} (h0 : -1000 ≤ p) (h1 : p ≤ 1000) : vcs [chA p, chB] = true := by
  have : ltC (chA p) chB = true := by
    show ltS (mkB [97]) (mkB [98]) = true
    decide +kernel
  unfold vcs chk
  simp [List.range_succ, okAt, vcB_A h0 h1, vcB_B, this]
theorem mix_one {p : Int} (h0 : -1000 ≤ p) (h1 : p ≤ 1000) {L : List Int} (h : vs L = true) : mixR [chA p] [L] = (L.map (fun x => clipN (mxV panC (chA p) x)), L.map (fun x => clipN (mxV panS (chA p) x)), 0) := by
  unfold mixR
  rw [if_neg (by rw [vcs_one h0 h1]; simp), if_neg (by simp [h]), if_pos (show [L].length = [chA p].length from rfl), mx_one, mx_one]
theorem mix_two {p : Int} (h0 : -1000 ≤ p) (h1 : p ≤ 1000) {L : List Int} (h : vs L = true) : mixR [chA p, chB] [L, L] = (L.map (fun x => clipN (mxV panC (chA p) x)), L.map (fun x => clipN (mxV panS (chA p) x)), 0) := by
  unfold mixR
  rw [if_neg (by rw [vcs_two h0 h1]; simp), if_neg (by simp [h]), if_pos (show [L, L].length = [chA p, chB].length from rfl), mx_two, mx_two, mx_one, mx_one]
theorem clip_le {s : Int → Int} (hs : ∀ p, -1000000 ≤ s p ∧ s p ≤ 1000000) (p x : Int) : max (clipN (mxV s (chA p) x)) (-(clipN (mxV s (chA p) x))) ≤ max x (-x) := by
  have := mxV_le hs p x
  unfold clipN
  omega
theorem aud_two {p : Int} (h0 : -1000 ≤ p) (h1 : p ≤ 1000) : audR [chA p, chB] = ([mkB [97]], 0) := by
  unfold audR
  rw [if_neg (by rw [vcs_two h0 h1]; simp)]
  rfl
end Go.Proofs.YtmcddcdhppomkaaDoor
