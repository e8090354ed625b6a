/-
  Walks (door seat S1D): sines by the table, by both texts, for angles of 0 to 180 degrees.
-/
import Derived.Test.YtnnhffehboknnaaDoorNear
import Derived.Test.YtnnhffehboknnaaDoorRows
import Derived.BigQuiet
namespace Go.Proofs.YtnnhffehboknnaaDoor
open Go.RowKit

/-- The table of the program, read off the given datum. -/
def sinT : List Int := match (Rows.laid_loop_example_g00955_impl_sines : DataW Unit) with
  | .agg xs => xs.map fun
    | .lit (.int _ v) => v
    | _ => 0
  | _ => []
def tb (k : Nat) : Int := sinT.getD k 0
theorem sinT_len : sinT.length = 91 := by kernel_rfl
theorem tb_all : ((List.range 91).all fun k => decide (0 ≤ tb k ∧ tb k ≤ 1000000)) = true := by kernel_rfl
theorem tb_bd {k : Nat} (h : k < 91) : 0 ≤ tb k ∧ tb k ≤ 1000000 := by
  have := List.all_eq_true.1 tb_all k (List.mem_range.2 h)
  simpa using this
/-- What the walks read. -/
def Tab (w : World) : Prop := ∀ k, k < 91 → w.cell? ⟨0, k, none⟩ = some (.int .i64 (tb k))
theorem Tab.G {w w' : World} (h : Tab w) (g : G w w') : Tab w' := fun k hk => g.cell (h k hk)
def snQ (x : Int) : Int := tb (x / 1000).toNat + near ((tb ((x / 1000).toNat + 1) - tb (x / 1000).toNat) * (x % 1000)) 1000
def snF (x : Int) : Int := if x > 90000 then snQ (180000 - x) else snQ x
def snA (a : Int) : Int := if 180000 ≤ a then -(snF (a - 180000)) else snF a
theorem near0 : near 0 1000 = 0 := by decide
theorem tb_mul {p q r : Int} (hp : 0 ≤ p ∧ p ≤ 1000000) (hq : 0 ≤ q ∧ q ≤ 1000000) (hr : 0 ≤ r ∧ r ≤ 1000) : -1000000000 ≤ (p - q) * r ∧ (p - q) * r ≤ 1000000000 := by
  have h1 := Int.mul_le_mul_of_nonneg_right (show p - q ≤ 1000000 by omega) hr.1
  have h2 := Int.mul_le_mul_of_nonneg_right (show -1000000 ≤ p - q by omega) hr.1
  omega

set_option maxHeartbeats 1000000 in
theorem NormalAngle_any (a : Int) (h0 : 0 ≤ a) (h1 : a < 360000) (w : World) :
    Calls Tryd.prog 49 #[.int .i64 a] w fun e w' => e = .returned (.int .i64 a) ∧ w = w' := by
  have e1 : a.tmod 360000 = a := by rw [Int.tmod_eq_emod_of_nonneg h0]; omega
  go_enter Tryd.func49, Tryd.ntmps49
  go_wp2
  go_ret
  first | exact ⟨rfl, rfl⟩ | exact ⟨ret_int (by omega), rfl⟩
set_option maxHeartbeats 1000000 in
theorem l02Normal_any (a : Int) (h0 : 0 ≤ a) (h1 : a < 360000) (w : World) :
    Calls Tryd.prog 58 #[.int .i64 a] w fun e w' => e = .returned (.int .i64 a) ∧ w = w' := by
  have e1 : a.tmod 360000 = a := by rw [Int.tmod_eq_emod_of_nonneg h0]; omega
  have e2 : (a + 360000).tmod 360000 = a := by rw [Int.tmod_eq_emod_of_nonneg (by omega)]; omega
  go_enter Tryd.func58, Tryd.ntmps58
  go_wp2
  go_ret
  first | exact ⟨rfl, rfl⟩ | exact ⟨ret_int (by omega), rfl⟩

set_option maxHeartbeats 2000000 in
theorem blend_any (x0 y0 x1 y1 x : Int) (h1 : x1 = x0 + 1000) (hx0 : 0 ≤ x0) (hx1 : x0 ≤ 90000) (hy0 : 0 ≤ y0 ∧ y0 ≤ 1000000) (hy1 : 0 ≤ y1 ∧ y1 ≤ 1000000) (hx : x0 ≤ x) (hxx : x < x0 + 1000) (w : World) :
    Calls Tryd.prog 50 #[.int .i64 x0, .int .i64 y0, .int .i64 x1, .int .i64 y1, .int .i64 x] w fun e w' => e = .returned (.int .i64 (y0 + near ((y1 - y0) * (x - x0)) 1000)) ∧ G w w' := by
  subst h1
  have hd1 : decide (x0 + 1000 ≤ x0) = false := by simp; omega
  by_cases h : x ≤ x0
  · obtain rfl : x = x0 := by omega
    have H := Lib.hid (show y0 = y0 + near ((y1 - y0) * (x - x)) 1000 by rw [Int.sub_self, Int.mul_zero, near0]; omega)
    have hd2 : decide (x ≤ x) = true := by simp
    go_enter Tryd.func50, Tryd.ntmps50
    go_wp2
    go_ret
    exact ⟨ret_int H.out, G.refl _⟩
  · have hd2 : decide (x ≤ x0) = false := by simpa using h
    have hm := tb_mul (r := x - x0) hy1 hy0 (by omega)
    have hn := near_bd (a := (y1 - y0) * (x - x0)) (b := 1000) (A := 1000000000) (by omega) (by omega)
    obtain ⟨m, HM⟩ : ∃ m, Hid ((y1 - y0) * (x - x0) = m) := ⟨_, rfl⟩
    have hm2 := HM.out
    rw [hm2] at hm hn ⊢
    have e3 : IntKind.i64.wrap ((y1 - y0) * (x - x0)) = m := by rw [hm2]; exact IntWalk.i64_in _ (by omega)
    have e4 : x0 + 1000 - x0 = 1000 := by omega
    have K := Lib.hid (fun W => nearest_any m 1000 (by omega) (by omega) (by omega) (by omega) W)
    clear hm2
    go_enter Tryd.func50, Tryd.ntmps50
    go_wp2_with (go_at_call 32; (try simp only [e3, e4]); refine (K.out _).mono ?_; rintro e w' ⟨rfl, n1, rfl⟩)
    go_ret
    exact ⟨rfl, (G.refl _).drewN _⟩

set_option maxRecDepth 20000 in
set_option maxHeartbeats 4000000 in
theorem iSine_low (a : Int) (h0 : 0 ≤ a) (h1 : a < 180000) (w : World) (ht : Tab w) :
    Calls Tryd.prog 31 #[.int .i64 a] w fun e w' => e = .returned (.int .i64 (snF a)) ∧ G w w' := by
  obtain ⟨x, hxa, hx0, hx1, HF⟩ : ∃ x, (a > 90000 ∧ x = 180000 - a ∨ a ≤ 90000 ∧ x = a) ∧ 0 ≤ x ∧ x ≤ 90000 ∧ Hid (snF a = snQ x) := by
    by_cases h : a > 90000
    · exact ⟨180000 - a, .inl ⟨h, rfl⟩, by omega, by omega, by unfold snF; exact if_pos h⟩
    · exact ⟨a, .inr ⟨by omega, rfl⟩, by omega, by omega, by unfold snF; exact if_neg h⟩
  obtain ⟨q, hq⟩ : ∃ q : Nat, x / 1000 = (q : Int) := ⟨(x / 1000).toNat, by omega⟩
  have hq2 : x.tdiv 1000 = (q : Int) := by rw [Int.tdiv_eq_ediv_of_nonneg hx0, hq]
  have HQ := Lib.hid (show snQ x = tb q + near ((tb (q + 1) - tb q) * (x - (q : Int) * 1000)) 1000 by
    unfold snQ
    rw [hq, show x % 1000 = x - (q : Int) * 1000 by omega]
    rfl)
  have hc := ht q (by omega)
  have HT := Lib.hid ht
  clear ht
  by_cases h90 : q = 90
  · subst h90
    obtain rfl : x = 90000 := by omega
    have HV := Lib.hid (show snF a = tb 90 by rw [HF.out, HQ.out, show (90000 : Int) - ((90 : Nat) : Int) * 1000 = 0 by omega, Int.mul_zero, near0]; omega)
    obtain rfl : a = 90000 := by omega
    go_enter Tryd.func31, Tryd.ntmps31
    go_wp2_with (go_at_call 49; refine (NormalAngle_any _ (by omega) (by omega) _).mono ?_; rintro e w' ⟨rfl, rfl⟩)
    go_ret
    exact ⟨ret_int HV.out.symm, G.refl _⟩
  · obtain ⟨q1, hq1⟩ : ∃ q1 : Nat, q1 = q + 1 := ⟨_, rfl⟩
    rw [← hq1] at HQ
    have hc1 := HT.out q1 (by omega)
    have hb0 := tb_bd (k := q) (by omega)
    have hb1 := tb_bd (k := q1) (by omega)
    obtain ⟨y0, HY0⟩ : ∃ y, Hid (tb q = y) := ⟨_, rfl⟩
    obtain ⟨y1, HY1⟩ : ∃ y, Hid (tb q1 = y) := ⟨_, rfl⟩
    rw [HY0.out] at hc hb0 HQ
    rw [HY1.out] at hc1 hb1 HQ
    have KB := Lib.hid (fun W => blend_any ((q : Int) * 1000) y0 ((q1 : Int) * 1000) y1 x (by omega) (by omega) (by omega) hb0 hb1 (by omega) (by omega) W)
    have e1 : IntKind.i64.wrap ((q : Int) * 1000) = (q : Int) * 1000 := IntWalk.i64_in _ (by omega)
    have e2 : IntKind.i64.wrap ((q : Int) + 1) = (q1 : Int) := by rw [IntWalk.i64_in _ (by omega)]; omega
    have e3 : IntKind.i64.wrap ((q1 : Int) * 1000) = (q1 : Int) * 1000 := IntWalk.i64_in _ (by omega)
    have hd : ((q : Int) == 90) = false := by simp; omega
    have hk0 : 0 ≤ (q : Int) := by omega
    have hk1 : (q : Int) < 91 := by omega
    have hl0 : 0 ≤ (q1 : Int) := by omega
    have hl1 : (q1 : Int) < 91 := by omega
    have HQ1 := Lib.hid hq1
    have HV := Lib.hid (show snF a = y0 + near ((y1 - y0) * (x - (q : Int) * 1000)) 1000 by rw [HF.out, HQ.out])
    have gc := cellR hc
    have gc1 := cellR hc1
    clear hc hc1 hq1
    rcases hxa with ⟨hxa, rfl⟩ | ⟨hxa, rfl⟩
    all_goals
      go_enter Tryd.func31, Tryd.ntmps31
      go_wp2_with (go_at_call 49; refine (NormalAngle_any _ (by omega) (by omega) _).mono ?_; rintro e w' ⟨rfl, rfl⟩)
      refine region_quiet_G (by kernel_rfl) (by kernel_rfl) ?_; (repeat (go_big_quiet_step (((go_at_call 50; exact quiet_G (KB.out _)))))); refine wpQuiet_nil ?_
      intro w1 g1
      go_wp2
      go_ret
      exact ⟨ret_int HV.out.symm, g1⟩

set_option maxRecDepth 20000 in
set_option maxHeartbeats 4000000 in
theorem iSine_any (a : Int) (h0 : 0 ≤ a) (h1 : a ≤ 180000) (w : World) (ht : Tab w) :
    Calls Tryd.prog 31 #[.int .i64 a] w fun e w' => e = .returned (.int .i64 (snA a)) ∧ G w w' := by
  by_cases h : a < 180000
  · have e : snA a = snF a := by unfold snA; exact if_neg (by omega)
    rw [e]
    exact iSine_low a h0 h w ht
  · obtain rfl : a = 180000 := by omega
    have H := Lib.hid (show snA 180000 = -(snF 0) by unfold snA; rw [if_pos (by omega)]; rfl)
    have K := Lib.hid (fun W (g : G w W) => iSine_low 0 (by omega) (by omega) W (ht.G g))
    have hb := tb_bd (k := 0) (by omega)
    have HS := Lib.hid (show snF 0 = tb 0 by unfold snF snQ; rw [if_neg (by omega), show (0 : Int) % 1000 = 0 by rfl, Int.mul_zero, near0]; simp)
    rw [HS.out] at H K
    obtain ⟨y, HY⟩ : ∃ y, Hid (tb 0 = y) := ⟨_, rfl⟩
    rw [HY.out] at hb H K
    clear ht
    go_enter Tryd.func31, Tryd.ntmps31
    go_wp2_with (first | (go_at_call 49; refine (NormalAngle_any _ (by omega) (by omega) _).mono ?_; rintro e w' ⟨rfl, rfl⟩) | (go_at_call 31; refine (K.out _ (G.refl _)).mono ?_; rintro e w' ⟨rfl, g1⟩))
    go_ret
    exact ⟨ret_int H.out.symm, g1⟩

set_option maxRecDepth 20000 in
set_option maxHeartbeats 2000000 in
theorem iCosine_any (a : Int) (h0 : 0 ≤ a) (h1 : a ≤ 90000) (w : World) (ht : Tab w) :
    Calls Tryd.prog 30 #[.int .i64 a] w fun e w' => e = .returned (.int .i64 (snA (a + 90000))) ∧ G w w' := by
  have K := Lib.hid (fun W (g : G w W) => iSine_any (a + 90000) (by omega) (by omega) W (ht.G g))
  clear ht
  go_enter Tryd.func30, Tryd.ntmps30
  go_wp2_with (first | (go_at_call 49; refine (NormalAngle_any _ (by omega) (by omega) _).mono ?_; rintro e w' ⟨rfl, rfl⟩) | (go_at_call 31; refine (K.out _ (G.refl _)).mono ?_; rintro e w' ⟨rfl, g1⟩))
  go_ret
  exact ⟨rfl, g1⟩

/-- The reference's own table, laid anew at each call. -/
def SinAt (w : World) (b : Nat) : Prop := ∀ k, k < 91 → w.cell? ⟨b, k, none⟩ = some (.int .i64 (tb k))
theorem sin_new (w : World) (T : Nat) (cs : Array Value) (h : cs = (sinT.map (Value.int .i64)).toArray) : SinAt (w.alloc (.cells cs T)) w.heap.size := by
  intro k hk
  have hl := sinT_len
  refine (World.cell?_alloc_at _ _ _ k rfl).trans ?_
  rw [h]
  unfold tb
  simp [List.getD, List.getElem?_eq_getElem (show k < sinT.length by omega)]

set_option maxRecDepth 20000 in
set_option maxHeartbeats 4000000 in
theorem l02Table_any (w : World) :
    Calls Tryd.prog 59 #[] w fun e w' => ∃ b, e = .returned (.slice (some ⟨b, 0, none⟩) 91 91) ∧ G w w' ∧ SinAt w' b := by
  go_enter Tryd.func59, Tryd.ntmps59
  go_wp2
  go_ret
  exact ⟨w.heap.size, rfl, (G.refl _).alloc _, sin_new _ _ _ (by kernel_rfl)⟩

set_option maxRecDepth 20000 in
set_option maxHeartbeats 8000000 in
theorem l02Sine_any (a : Int) (h0 : 0 ≤ a) (h1 : a ≤ 180000) (w : World) :
    Calls Tryd.prog 53 #[.int .i64 a] w fun e w' => e = .returned (.int .i64 (snA a)) ∧ G w w' := by
  obtain ⟨x, hxa, hx0, hx1⟩ : ∃ x, (180000 ≤ a ∧ x = a - 180000 ∧ Hid (snA a = -(snQ x)) ∨ a < 180000 ∧ 90000 < a ∧ x = 180000 - a ∧ Hid (snA a = snQ x) ∨ a < 180000 ∧ a ≤ 90000 ∧ x = a ∧ Hid (snA a = snQ x)) ∧ 0 ≤ x ∧ x ≤ 90000 := by
    by_cases h : 180000 ≤ a
    · exact ⟨a - 180000, .inl ⟨h, rfl, by unfold snA snF; rw [if_pos h, if_neg (by omega)]; rfl⟩, by omega, by omega⟩
    · by_cases h2 : 90000 < a
      · exact ⟨180000 - a, .inr (.inl ⟨by omega, h2, rfl, by unfold snA snF; rw [if_neg h, if_pos h2]; rfl⟩), by omega, by omega⟩
      · exact ⟨a, .inr (.inr ⟨by omega, by omega, rfl, by unfold snA snF; rw [if_neg h, if_neg h2]; rfl⟩), by omega, by omega⟩
  obtain ⟨q, hq⟩ : ∃ q : Nat, x / 1000 = (q : Int) := ⟨(x / 1000).toNat, by omega⟩
  obtain ⟨r, hr⟩ : ∃ r : Int, x % 1000 = r := ⟨_, rfl⟩
  have hq2 : x.tdiv 1000 = (q : Int) := by rw [Int.tdiv_eq_ediv_of_nonneg hx0, hq]
  have hr2 : x.tmod 1000 = r := by rw [Int.tmod_eq_emod_of_nonneg hx0, hr]
  have hr0 : 0 ≤ r := by omega
  have hr1 : r < 1000 := by omega
  have hq90 : q ≤ 90 := by omega
  have hk0 : 0 ≤ (q : Int) := by omega
  have hk1 : (q : Int) < 91 := by omega
  have HQ := Lib.hid (show snQ x = tb q + near ((tb (q + 1) - tb q) * r) 1000 by unfold snQ; rw [hq, hr]; rfl)
  have hb0 := tb_bd (k := q) (by omega)
  obtain ⟨y0, HY0⟩ : ∃ y, Hid (tb q = y) := ⟨_, rfl⟩
  rw [HY0.out] at hb0 HQ
  have KN := Lib.hid (fun (b : Int) (h0 : 0 ≤ b) (h1 : b ≤ 180000) W => l02Normal_any b h0 (by omega) W)
  by_cases hrz : r = 0
  · subst hrz
    have HS := Lib.hid (show snQ x = y0 by rw [HQ.out, Int.mul_zero, near0]; omega)
    have HXQ := Lib.hid (show x = q * 1000 by omega)
    clear hq hr HQ
    rcases hxa with ⟨ha, rfl, HA⟩ | ⟨ha, hb, rfl, HA⟩ | ⟨ha, hb, rfl, HA⟩
    · obtain rfl : a = 180000 := by omega
      obtain rfl : q = 0 := by have := HXQ.out; omega
      rw [HS.out] at HA
      clear hq2 hr2 HXQ hk0 hk1 hx0 hx1 hr0 hr1
      go_enter Tryd.func53, Tryd.ntmps53
      go_wp2_with (first | (go_at_call 58; refine (KN.out _ (by omega) (by omega) _).mono ?_; rintro e w' ⟨rfl, rfl⟩) | (go_at_call 59; refine (l02Table_any _).mono ?_; rintro e w1 ⟨b, rfl, g1, t1⟩; have hc := t1 0 (by omega); rw [HY0.out] at hc; have G1 := Lib.hid g1; clear g1 t1))
      go_ret
      exact ⟨ret_int (by rw [HA.out] <;> omega), G1.out⟩
    all_goals
      rw [HS.out] at HA
      go_enter Tryd.func53, Tryd.ntmps53
      go_wp2_with (first | (go_at_call 58; refine (KN.out _ (by omega) (by omega) _).mono ?_; rintro e w' ⟨rfl, rfl⟩) | (go_at_call 59; refine (l02Table_any _).mono ?_; rintro e w1 ⟨b, rfl, g1, t1⟩; have hc := t1 q (by omega); rw [HY0.out] at hc; have G1 := Lib.hid g1; clear g1 t1))
      go_ret
      exact ⟨ret_int (by rw [HA.out] <;> omega), G1.out⟩
  · have hq89 : q ≤ 89 := by omega
    obtain ⟨q1, hq1⟩ : ∃ q1 : Nat, q1 = q + 1 := ⟨_, rfl⟩
    rw [← hq1] at HQ
    have hb1 := tb_bd (k := q1) (by omega)
    obtain ⟨y1, HY1⟩ : ∃ y, Hid (tb q1 = y) := ⟨_, rfl⟩
    rw [HY1.out] at hb1 HQ
    have hm := tb_mul (r := r) hb1 hb0 (by omega)
    obtain ⟨m, HM⟩ : ∃ m, Hid ((y1 - y0) * r = m) := ⟨_, rfl⟩
    rw [HM.out] at hm HQ
    have hn := near_bd (a := m) (b := 1000) (A := 1000000000) (by omega) hm
    have K := Lib.hid (fun W => l01Div_any m 1000 (by omega) (by omega) (by omega) (by omega) W)
    obtain ⟨z, HZ⟩ : ∃ z, Hid (near m 1000 = z) := ⟨_, rfl⟩
    rw [HZ.out] at hn K HQ
    have e2 : IntKind.i64.wrap ((q : Int) + 1) = (q1 : Int) := by rw [IntWalk.i64_in _ (by omega)]; omega
    have e3 : IntKind.i64.wrap (y1 - y0) = y1 - y0 := IntWalk.i64_in _ (by omega)
    have e4 : IntKind.i64.wrap ((y1 - y0) * r) = m := by rw [HM.out]; exact IntWalk.i64_in _ (by omega)
    have e5 : IntKind.i64.wrap (y0 + z) = y0 + z := IntWalk.i64_in _ (by omega)
    have hl0 : 0 ≤ (q1 : Int) := by omega
    have hl1 : (q1 : Int) < 91 := by omega
    have hq1b : q1 < 91 := by omega
    have hrp : 0 < r := by omega
    clear hq hr hq1 hrz
    rcases hxa with ⟨ha, rfl, HA⟩ | ⟨ha, hb, rfl, HA⟩ | ⟨ha, hb, rfl, HA⟩
    all_goals
      rw [HQ.out] at HA
      go_enter Tryd.func53, Tryd.ntmps53
      go_wp2_with (first | (go_at_call 58; refine (KN.out _ (by omega) (by omega) _).mono ?_; rintro e w' ⟨rfl, rfl⟩) | (go_at_call 59; refine (l02Table_any _).mono ?_; rintro e w1 ⟨b, rfl, g1, t1⟩; have hc := t1 q (by omega); have hc1 := t1 q1 hq1b; rw [HY0.out] at hc; rw [HY1.out] at hc1; have G1 := Lib.hid g1; clear g1 t1))
      have gc := cellR hc
      have gc1 := cellR hc1
      clear hc hc1
      refine region_quiet_G (by kernel_rfl) (by kernel_rfl) ?_; (repeat (go_big_quiet_step (((go_at_call 40; exact quiet_G_same (K.out _)))))); refine wpQuiet_nil ?_
      intro w2 g2
      clear e2 e3 e4
      go_wp2
      go_ret
      exact ⟨ret_int (by rw [HA.out] <;> omega), G1.out.trans g2⟩
end Go.Proofs.YtnnhffehboknnaaDoor
