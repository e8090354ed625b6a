/-
  Walks: the factor of a gain, by both texts.
-/
import Derived.Test.YtmcddcdhppomkaaDoorGain
import Derived.Deep.DeepCutAuto
import Derived.Deep.WholeRow
namespace Go.Proofs.YtmcddcdhppomkaaDoor
open Go.RowKit

def tab : Nat → Int := fun i => [1000, 1122, 1259, 1413, 1585, 1778, 1995, 2239, 2512, 2818, 3162, 3548, 3981, 4467, 5012, 5623, 6310, 7079, 7943, 8913, 10000].getD i 0
theorem tab_bd : ∀ k, k < 20 → 1000 ≤ tab k ∧ tab k ≤ tab (k + 1) ∧ tab (k + 1) ≤ 10000 := by decide
def gf (g : Int) : Int := near ((100 * tab ((g + 6000) % 2000 / 100).toNat + (tab (((g + 6000) % 2000 / 100).toNat + 1) - tab ((g + 6000) % 2000 / 100).toNat) * ((g + 6000) % 100)) * 10 ^ ((g + 6000) / 2000).toNat) 100
/-- A block that holds the table. -/
def TabAt (w : World) (b : Nat) : Prop := ∀ i, i < 21 → w.cell? ⟨b, i, none⟩ = some (.int .i64 (tab i))
theorem pow10_le (d : Nat) (h : d ≤ 3) : 1 ≤ (10 : Int) ^ d ∧ (10 : Int) ^ d ≤ 1000 := by
  have : ∀ d, d ≤ 3 → 1 ≤ (10 : Int) ^ d ∧ (10 : Int) ^ d ≤ 1000 := by decide
  exact this d h
theorem gf_parts (g : Int) (h0 : -6000 ≤ g) (h1 : g ≤ 600) : ∃ (k d : Nat) (m a b f : Int), (g + 6000) % 2000 / 100 = k ∧ k < 20 ∧ (g + 6000) / 2000 = d ∧ d ≤ 3 ∧ (g + 6000) % 100 = m ∧ 0 ≤ m ∧ m < 100 ∧
    tab k = a ∧ tab (k + 1) = b ∧ 1000 ≤ a ∧ a ≤ b ∧ b ≤ 10000 ∧ (b - a) * m = f ∧ 0 ≤ f ∧ f ≤ 900000 ∧ gf g = near ((100 * a + f) * 10 ^ d) 100 := by
  refine ⟨((g + 6000) % 2000 / 100).toNat, ((g + 6000) / 2000).toNat, (g + 6000) % 100, _, _, _, by omega, by omega, by omega, by omega, rfl, by omega, by omega, rfl, rfl, ?_, ?_, ?_, rfl, ?_, ?_, rfl⟩
  all_goals
    have t := tab_bd ((g + 6000) % 2000 / 100).toNat (by omega)
    first
    | omega
    | (have := mul_bd (x := tab (((g + 6000) % 2000 / 100).toNat + 1) - tab ((g + 6000) % 2000 / 100).toNat) (X := 9000) (y := (g + 6000) % 100) (Y := 100) (by omega) (by omega); omega)
    | exact Int.mul_nonneg (by omega) (by omega)
/-- One power of ten more. -/
theorem pow10_succ (F : Int) (j : Nat) : F * 10 ^ j * 10 = F * 10 ^ (j + 1) := by rw [Int.pow_succ, Int.mul_assoc]
theorem pow10_bd (F : Int) (j : Nat) (h0 : 0 ≤ F) (h1 : F ≤ 1900000) (hj : j ≤ 3) : 0 ≤ F * 10 ^ j ∧ F * 10 ^ j ≤ 1900000000 := by
  have p := pow10_le j hj
  have := mul_bd (x := F) (X := 1900000) (y := 10 ^ j) (Y := 1000) (by omega) (by omega)
  exact ⟨Int.mul_nonneg h0 (by omega), by omega⟩

theorem gf_bd (g : Int) (h0 : -6000 ≤ g) (h1 : g ≤ 600) : -1900000000 ≤ gf g ∧ gf g ≤ 1900000000 := by
  obtain ⟨k, d, m, a, b, f, hk, hk1, hd, hd1, hm, hm0, hm1, ha, hb, ha0, hab, hb1, hf, hf0, hf1, hg⟩ := gf_parts g h0 h1
  have := pow10_bd (100 * a + f) d (by omega) (by omega) hd1
  have := near_bd (a := (100 * a + f) * 10 ^ d) (b := 100) (A := 1900000000) (by omega) (by omega)
  rw [hg]
  omega
def tabV : Array Value := ((List.range 21).map fun i => Value.int .i64 (tab i)).toArray
theorem tabAt_alloc (w : World) (t : TypeId) (cs : Array Value) (h : cs = tabV) : TabAt (w.alloc (.cells cs t)) w.heap.size := by
  subst h
  intro i hi
  rw [World.cell?_alloc_at _ _ _ _ rfl]
  unfold tabV
  simp [hi]
theorem tabAt_new (w : World) (t : TypeId) (c cs : Array Value) (h : cs = tabV) : TabAt ((w.alloc (.cells c t)).setRow w.heap.size cs) w.heap.size := by
  subst h
  rw [World.setRow_alloc_new]
  intro i hi
  rw [World.cell?_alloc_at _ _ _ _ rfl]
  unfold tabV
  simp [hi]

set_option maxHeartbeats 1000000 in
theorem gainFactor_any (g : Int) (h0 : -6000 ≤ g) (h1 : g ≤ 600) (w : World) :
    Calls Tryd.prog 23 #[.int .i64 g] w fun e w' => e = .returned (.int .i64 (gf g)) ∧ G w w' := by
  obtain ⟨k, d, m, a, b, f, hk, hk1, hd, hd1, hm, hm0, hm1, ha, hb, ha0, hab, hb1, hf, hf0, hf1, hg⟩ := gf_parts g h0 h1
  have Hk := Lib.hid hk; have Hd := Lib.hid hd; have Hm := Lib.hid hm; have Ha := Lib.hid ha; have Hb := Lib.hid hb; have Hf := Lib.hid hf; have Hg := Lib.hid hg
  clear hk hd hm ha hb hf hg
  go_enter Tryd.func23, Tryd.ntmps23
  go_upto_region 1 with (fail)
  go_cut [3] (fun s3 wx => ∃ g : Nat, s3 = .pointer (some ⟨g, 0, none⟩) ∧ Below w.heap.size w wx ∧ TabAt wx g)
  case first =>
    go_wp2_with (first | (refine wpList_store_row rfl 65 (.tmp 3) (.tmp 7) rfl w.heap.size _ rfl rfl 65 _ (heap_alloc_last w _) (by kernel_rfl) rfl (by kernel_rfl) ?_) | fail)
    go_meet
    case rel =>
      exact ⟨w.heap.size, rfl, by rw [World.setRow_alloc_new]; exact (Below.refl _ _).alloc (Nat.le_refl _) _, tabAt_new _ _ _ _ (by kernel_rfl)⟩
  case rest =>
    obtain ⟨gb, rfl, hbel, htab⟩ := hcut
    have hc0 := htab k (by omega)
    have hc1 := htab (k + 1) (by omega)
    rw [Ha.out] at hc0
    rw [Hb.out] at hc1
    have HT := Lib.hid htab
    have HB := Lib.hid hbel
    clear htab hbel
    go_wp2
    rw [Hk.out]
    have hw1 : IntKind.i64.wrap ((k : Int) + 1) = (k : Int) + 1 := IntWalk.i64_in _ (by omega)
    have hw2 : ((k : Int) + 1).toNat = k + 1 := by omega
    have hw3 : IntKind.i64.wrap (100 * a) = 100 * a := IntWalk.i64_in _ (by omega)
    have hw4 : IntKind.i64.wrap (b - a) = b - a := IntWalk.i64_in _ (by omega)
    have hw5 : (g + 6000).tmod 100 = m := by rw [Int.tmod_eq_emod_of_nonneg (by omega)]; exact Hm.out
    have hw6 : IntKind.i64.wrap ((b - a) * m) = f := by rw [Hf.out]; exact IntWalk.i64_in _ (by omega)
    have hw7 : IntKind.i64.wrap (100 * a + f) = 100 * a + f := IntWalk.i64_in _ (by omega)
    have hk21 : (k : Int) + 1 < 21 := by omega
    have hk22 : (k : Int) < 21 := by omega
    have hk23 : 0 ≤ (k : Int) + 1 := by omega
    go_quiet (fail)
    clear hw1 hw2 hw3 hw4 hw5 hw6 hw7
    go_wp2
    rw [Hd.out]
    have hF0 : 0 ≤ 100 * a + f := by omega
    have hF1 : 100 * a + f ≤ 1900000 := by omega
    obtain ⟨F, HF⟩ : ∃ F, Hid (100 * a + f = F) := ⟨_, rfl⟩
    rw [HF.out] at hF0 hF1
    rw [HF.out]
    go_loop [31, 6] (fun i v => ∃ j : Nat, j ≤ d ∧ i = .int .i64 j ∧ v = .int .i64 (F * 10 ^ j)) (fun i _ => d - (intOf i).toNat)
    case atStart => exact ⟨0, Nat.zero_le _, rfl, by simp⟩
    case round =>
      obtain ⟨j, hj, rfl, rfl⟩ := hrel
      have hx := pow10_bd F j hF0 hF1 (by omega)
      have HS := Lib.hid (pow10_succ F j)
      obtain ⟨x, HX⟩ : ∃ x, Hid (F * 10 ^ j = x) := ⟨_, rfl⟩
      rw [HX.out] at hx
      rw [HX.out]
      by_cases hlt : j < d
      · go_wp2
        go_round
        case rel => exact ⟨j + 1, by omega, by go_num, by rw [← HS.out, HX.out]⟩
        case measure => simp [intOf]; omega
      · have hjd : j = d := by omega
        go_wp2_with (go_at_call 25; refine (nearest_any _ _ (by omega) (by omega) (by omega) (by omega) _).mono ?_; rintro e w' ⟨rfl, n1, rfl⟩)
        go_ret
        exact ⟨ret_int (by rw [Hg.out, HF.out, ← hjd, HX.out]), G.drewN HB.out _⟩

set_option maxHeartbeats 1000000 in
theorem l19Factor_any (g : Int) (h0 : -6000 ≤ g) (h1 : g ≤ 600) (w : World) :
    Calls Tryd.prog 29 #[.int .i64 g] w fun e w' => e = .returned (.int .i64 (gf g)) ∧ G w w' := by
  obtain ⟨k, d, m, a, b, f, hk, hk1, hd, hd1, hm, hm0, hm1, ha, hb, ha0, hab, hb1, hf, hf0, hf1, hg⟩ := gf_parts g h0 h1
  have Hk := Lib.hid hk; have Hd := Lib.hid hd; have Hm := Lib.hid hm; have Ha := Lib.hid ha; have Hb := Lib.hid hb; have Hf := Lib.hid hf; have Hg := Lib.hid hg
  clear hk hd hm ha hb hf hg
  go_enter Tryd.func29, Tryd.ntmps29
  go_upto_region 1 with (fail)
  go_cut [3] (fun s3 wx => ∃ g : Nat, s3 = .slice (some ⟨g, 0, none⟩) 21 21 ∧ Below w.heap.size w wx ∧ TabAt wx g)
  case first =>
    go_wp2
    go_meet
    case rel =>
      exact ⟨w.heap.size, rfl, (Below.refl _ _).alloc (Nat.le_refl _) _, tabAt_alloc _ _ _ (by kernel_rfl)⟩
  case rest =>
    obtain ⟨gb, rfl, hbel, htab⟩ := hcut
    have hc0 := htab k (by omega)
    have hc1 := htab (k + 1) (by omega)
    rw [Ha.out] at hc0
    rw [Hb.out] at hc1
    have HT := Lib.hid htab
    have HB := Lib.hid hbel
    clear htab hbel
    go_wp2
    rw [Hk.out]
    have hw1 : IntKind.i64.wrap ((k : Int) + 1) = (k : Int) + 1 := IntWalk.i64_in _ (by omega)
    have hw2 : ((k : Int) + 1).toNat = k + 1 := by omega
    have hw3 : IntKind.i64.wrap (a * 100) = 100 * a := by rw [Int.mul_comm]; exact IntWalk.i64_in _ (by omega)
    have hw4 : IntKind.i64.wrap (b - a) = b - a := IntWalk.i64_in _ (by omega)
    have hw5 : (g + 6000).tmod 100 = m := by rw [Int.tmod_eq_emod_of_nonneg (by omega)]; exact Hm.out
    have hw6 : IntKind.i64.wrap ((b - a) * m) = f := by rw [Hf.out]; exact IntWalk.i64_in _ (by omega)
    have hw7 : IntKind.i64.wrap (100 * a + f) = 100 * a + f := IntWalk.i64_in _ (by omega)
    have hk21 : (k : Int) + 1 < 21 := by omega
    have hk22 : (k : Int) < 21 := by omega
    have hk23 : 0 ≤ (k : Int) + 1 := by omega
    go_quiet (fail)
    clear hw1 hw2 hw3 hw4 hw5 hw6 hw7
    go_wp2
    rw [Hd.out]
    have hF0 : 0 ≤ 100 * a + f := by omega
    have hF1 : 100 * a + f ≤ 1900000 := by omega
    obtain ⟨F, HF⟩ : ∃ F, Hid (100 * a + f = F) := ⟨_, rfl⟩
    rw [HF.out] at hF0 hF1
    rw [HF.out]
    go_loop [7, 6] (fun i v => ∃ j : Nat, j ≤ d ∧ i = .int .i64 ((d : Int) - j) ∧ v = .int .i64 (F * 10 ^ j)) (fun i _ => (intOf i).toNat)
    case atStart => exact ⟨0, Nat.zero_le _, by simp, by simp⟩
    case round =>
      obtain ⟨j, hj, rfl, rfl⟩ := hrel
      have hx := pow10_bd F j hF0 hF1 (by omega)
      have HS := Lib.hid (pow10_succ F j)
      obtain ⟨x, HX⟩ : ∃ x, Hid (F * 10 ^ j = x) := ⟨_, rfl⟩
      rw [HX.out] at hx
      rw [HX.out]
      by_cases hlt : j < d
      · go_wp2
        go_round
        case rel => exact ⟨j + 1, by omega, by go_num, by rw [← HS.out, HX.out]⟩
        case measure => simp [intOf]; omega
      · have hjd : j = d := by omega
        subst hjd
        go_wp2_with (go_at_call 31; refine (l01Div_any _ _ (by omega) (by omega) (by omega) (by omega) _).mono ?_; rintro e w' ⟨rfl, rfl⟩)
        go_ret
        exact ⟨ret_int (by rw [Hg.out, HF.out, HX.out]), G.drewN HB.out _⟩
end Go.Proofs.YtmcddcdhppomkaaDoor
