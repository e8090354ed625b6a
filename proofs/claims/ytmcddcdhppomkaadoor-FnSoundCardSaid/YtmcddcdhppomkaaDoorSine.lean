/-
  Walks (door seat S1D): sines by the table, by both texts, for angles of 0 to 180 degrees.
-/
import Derived.Test.YtmcddcdhppomkaaDoorNear
import Derived.Test.YtmcddcdhppomkaaDoorRows
import Derived.BigQuiet
namespace Go.Proofs.YtmcddcdhppomkaaDoor
open Go.RowKit

/-- The table of the program, read off the given datum. -/
def sinT : List Int := match (Rows.laid_loop_example_g00955_impl_sines : DataW Unit) with
  | .agg xs => xs.map fun
    | .lit (.int _ v) => v
    | _ => 0
  | _ => []
def tb (k : Nat) : Int := sinT.getD k 0
theorem sinT_len : sinT.length = 91 := by kernel_rfl
theorem tb_all : ((List.range 91).all fun k => decide (0 ≤ tb k ∧ tb k ≤ 1000000)) = true := by kernel_rfl
theorem tb_bd {k : Nat} (h : k < 91) : 0 ≤ tb k ∧ tb k ≤ 1000000 := by
  have := List.all_eq_true.1 tb_all k (List.mem_range.2 h)
  simpa using this
/-- What the walks read. -/
def Tab (w : World) : Prop := ∀ k, k < 91 → w.cell? ⟨1, k, none⟩ = some (.int .i64 (tb k))
theorem Tab.G {w w' : World} (h : Tab w) (g : G w w') : Tab w' := fun k hk => g.cell (h k hk)
def snQ (x : Int) : Int := tb (x / 1000).toNat + near ((tb ((x / 1000).toNat + 1) - tb (x / 1000).toNat) * (x % 1000)) 1000
def snF (x : Int) : Int := if x > 90000 then snQ (180000 - x) else snQ x
def snA (a : Int) : Int := if 180000 ≤ a then -(snF (a - 180000)) else snF a
theorem near0 : near 0 1000 = 0 := by decide
theorem tb_mul {p q r : Int} (hp : 0 ≤ p ∧ p ≤ 1000000) (hq : 0 ≤ q ∧ q ≤ 1000000) (hr : 0 ≤ r ∧ r ≤ 1000) : -1000000000 ≤ (p - q) * r ∧ (p - q) * r ≤ 1000000000 := by
  have h1 := Int.mul_le_mul_of_nonneg_right (show p - q ≤ 1000000 by omega) hr.1
  have h2 := Int.mul_le_mul_of_nonneg_right (show -1000000 ≤ p - q by omega) hr.1
  omega

set_option maxHeartbeats 1000000 in
theorem NormalAngle_any (a : Int) (h0 : 0 ≤ a) (h1 : a < 360000) (w : World) :
    Calls Tryd.prog 50 #[.int .i64 a] w fun e w' => e = .returned (.int .i64 a) ∧ w = w' := by
  have e1 : a.tmod 360000 = a := by rw [Int.tmod_eq_emod_of_nonneg h0]; omega
  go_enter Tryd.func50, Tryd.ntmps50
  go_wp2
  go_ret
  first | exact ⟨rfl, rfl⟩ | exact ⟨ret_int (by omega), rfl⟩
set_option maxHeartbeats 2000000 in
theorem blend_any (x0 y0 x1 y1 x : Int) (h1 : x1 = x0 + 1000) (hx0 : 0 ≤ x0) (hx1 : x0 ≤ 90000) (hy0 : 0 ≤ y0 ∧ y0 ≤ 1000000) (hy1 : 0 ≤ y1 ∧ y1 ≤ 1000000) (hx : x0 ≤ x) (hxx : x < x0 + 1000) (w : World) :
    Calls Tryd.prog 51 #[.int .i64 x0, .int .i64 y0, .int .i64 x1, .int .i64 y1, .int .i64 x] w fun e w' => e = .returned (.int .i64 (y0 + near ((y1 - y0) * (x - x0)) 1000)) ∧ G w w' := by
  subst h1
  have hd1 : decide (x0 + 1000 ≤ x0) = false := by simp; omega
  by_cases h : x ≤ x0
  · obtain rfl : x = x0 := by omega
    have H := Lib.hid (show y0 = y0 + near ((y1 - y0) * (x - x)) 1000 by rw [Int.sub_self, Int.mul_zero, near0]; omega)
    have hd2 : decide (x ≤ x) = true := by simp
    go_enter Tryd.func51, Tryd.ntmps51
    go_wp2
    go_ret
    exact ⟨ret_int H.out, G.refl _⟩
  · have hd2 : decide (x ≤ x0) = false := by simpa using h
    have hm := tb_mul (r := x - x0) hy1 hy0 (by omega)
    have hn := near_bd (a := (y1 - y0) * (x - x0)) (b := 1000) (A := 1000000000) (by omega) (by omega)
    obtain ⟨m, HM⟩ : ∃ m, Hid ((y1 - y0) * (x - x0) = m) := ⟨_, rfl⟩
    have hm2 := HM.out
    rw [hm2] at hm hn ⊢
    have e3 : IntKind.i64.wrap ((y1 - y0) * (x - x0)) = m := by rw [hm2]; exact IntWalk.i64_in _ (by omega)
    have e4 : x0 + 1000 - x0 = 1000 := by omega
    have K := Lib.hid (fun W => nearest_any m 1000 (by omega) (by omega) (by omega) (by omega) W)
    clear hm2
    go_enter Tryd.func51, Tryd.ntmps51
    go_wp2_with (go_at_call 25; (try simp only [e3, e4]); refine (K.out _).mono ?_; rintro e w' ⟨rfl, n1, rfl⟩)
    go_ret
    exact ⟨rfl, (G.refl _).drewN _⟩

set_option maxRecDepth 20000 in
set_option maxHeartbeats 4000000 in
theorem iSine_low (a : Int) (h0 : 0 ≤ a) (h1 : a < 180000) (w : World) (ht : Tab w) :
    Calls Tryd.prog 44 #[.int .i64 a] w fun e w' => e = .returned (.int .i64 (snF a)) ∧ G w w' := by
  obtain ⟨x, hxa, hx0, hx1, HF⟩ : ∃ x, (a > 90000 ∧ x = 180000 - a ∨ a ≤ 90000 ∧ x = a) ∧ 0 ≤ x ∧ x ≤ 90000 ∧ Hid (snF a = snQ x) := by
    by_cases h : a > 90000
    · exact ⟨180000 - a, .inl ⟨h, rfl⟩, by omega, by omega, by unfold snF; exact if_pos h⟩
    · exact ⟨a, .inr ⟨by omega, rfl⟩, by omega, by omega, by unfold snF; exact if_neg h⟩
  obtain ⟨q, hq⟩ : ∃ q : Nat, x / 1000 = (q : Int) := ⟨(x / 1000).toNat, by omega⟩
  have hq2 : x.tdiv 1000 = (q : Int) := by rw [Int.tdiv_eq_ediv_of_nonneg hx0, hq]
  have HQ := Lib.hid (show snQ x = tb q + near ((tb (q + 1) - tb q) * (x - (q : Int) * 1000)) 1000 by
    unfold snQ
    rw [hq, show x % 1000 = x - (q : Int) * 1000 by omega]
    rfl)
  have hc := ht q (by omega)
  have HT := Lib.hid ht
  clear ht
  by_cases h90 : q = 90
  · subst h90
    obtain rfl : x = 90000 := by omega
    have HV := Lib.hid (show snF a = tb 90 by rw [HF.out, HQ.out, show (90000 : Int) - ((90 : Nat) : Int) * 1000 = 0 by omega, Int.mul_zero, near0]; omega)
    obtain rfl : a = 90000 := by omega
    go_enter Tryd.func44, Tryd.ntmps44
    go_wp2_with (go_at_call 50; refine (NormalAngle_any _ (by omega) (by omega) _).mono ?_; rintro e w' ⟨rfl, rfl⟩)
    go_ret
    exact ⟨ret_int HV.out.symm, G.refl _⟩
  · obtain ⟨q1, hq1⟩ : ∃ q1 : Nat, q1 = q + 1 := ⟨_, rfl⟩
    rw [← hq1] at HQ
    have hc1 := HT.out q1 (by omega)
    have hb0 := tb_bd (k := q) (by omega)
    have hb1 := tb_bd (k := q1) (by omega)
    obtain ⟨y0, HY0⟩ : ∃ y, Hid (tb q = y) := ⟨_, rfl⟩
    obtain ⟨y1, HY1⟩ : ∃ y, Hid (tb q1 = y) := ⟨_, rfl⟩
    rw [HY0.out] at hc hb0 HQ
    rw [HY1.out] at hc1 hb1 HQ
    have KB := Lib.hid (fun W => blend_any ((q : Int) * 1000) y0 ((q1 : Int) * 1000) y1 x (by omega) (by omega) (by omega) hb0 hb1 (by omega) (by omega) W)
    have e1 : IntKind.i64.wrap ((q : Int) * 1000) = (q : Int) * 1000 := IntWalk.i64_in _ (by omega)
    have e2 : IntKind.i64.wrap ((q : Int) + 1) = (q1 : Int) := by rw [IntWalk.i64_in _ (by omega)]; omega
    have e3 : IntKind.i64.wrap ((q1 : Int) * 1000) = (q1 : Int) * 1000 := IntWalk.i64_in _ (by omega)
    have hd : ((q : Int) == 90) = false := by simp; omega
    have hk0 : 0 ≤ (q : Int) := by omega
    have hk1 : (q : Int) < 91 := by omega
    have hl0 : 0 ≤ (q1 : Int) := by omega
    have hl1 : (q1 : Int) < 91 := by omega
    have HQ1 := Lib.hid hq1
    have HV := Lib.hid (show snF a = y0 + near ((y1 - y0) * (x - (q : Int) * 1000)) 1000 by rw [HF.out, HQ.out])
    have gc := cellR hc
    have gc1 := cellR hc1
    clear hc hc1 hq1
    rcases hxa with ⟨hxa, rfl⟩ | ⟨hxa, rfl⟩
    all_goals
      go_enter Tryd.func44, Tryd.ntmps44
      go_wp2_with (go_at_call 50; refine (NormalAngle_any _ (by omega) (by omega) _).mono ?_; rintro e w' ⟨rfl, rfl⟩)
      refine region_quiet_G (by kernel_rfl) (by kernel_rfl) ?_; (repeat (go_big_quiet_step (((go_at_call 51; exact quiet_G (KB.out _)))))); refine wpQuiet_nil ?_
      intro w1 g1
      go_wp2
      go_ret
      exact ⟨ret_int HV.out.symm, g1⟩

set_option maxRecDepth 20000 in
set_option maxHeartbeats 4000000 in
theorem iSine_any (a : Int) (h0 : 0 ≤ a) (h1 : a ≤ 180000) (w : World) (ht : Tab w) :
    Calls Tryd.prog 44 #[.int .i64 a] w fun e w' => e = .returned (.int .i64 (snA a)) ∧ G w w' := by
  by_cases h : a < 180000
  · have e : snA a = snF a := by unfold snA; exact if_neg (by omega)
    rw [e]
    exact iSine_low a h0 h w ht
  · obtain rfl : a = 180000 := by omega
    have H := Lib.hid (show snA 180000 = -(snF 0) by unfold snA; rw [if_pos (by omega)]; rfl)
    have K := Lib.hid (fun W (g : G w W) => iSine_low 0 (by omega) (by omega) W (ht.G g))
    have hb := tb_bd (k := 0) (by omega)
    have HS := Lib.hid (show snF 0 = tb 0 by unfold snF snQ; rw [if_neg (by omega), show (0 : Int) % 1000 = 0 by rfl, Int.mul_zero, near0]; simp)
    rw [HS.out] at H K
    obtain ⟨y, HY⟩ : ∃ y, Hid (tb 0 = y) := ⟨_, rfl⟩
    rw [HY.out] at hb H K
    clear ht
    go_enter Tryd.func44, Tryd.ntmps44
    go_wp2_with (first | (go_at_call 50; refine (NormalAngle_any _ (by omega) (by omega) _).mono ?_; rintro e w' ⟨rfl, rfl⟩) | (go_at_call 44; refine (K.out _ (G.refl _)).mono ?_; rintro e w' ⟨rfl, g1⟩))
    go_ret
    exact ⟨ret_int H.out.symm, g1⟩

set_option maxRecDepth 20000 in
set_option maxHeartbeats 2000000 in
theorem iCosine_any (a : Int) (h0 : 0 ≤ a) (h1 : a ≤ 90000) (w : World) (ht : Tab w) :
    Calls Tryd.prog 43 #[.int .i64 a] w fun e w' => e = .returned (.int .i64 (snA (a + 90000))) ∧ G w w' := by
  have K := Lib.hid (fun W (g : G w W) => iSine_any (a + 90000) (by omega) (by omega) W (ht.G g))
  clear ht
  go_enter Tryd.func43, Tryd.ntmps43
  go_wp2_with (first | (go_at_call 50; refine (NormalAngle_any _ (by omega) (by omega) _).mono ?_; rintro e w' ⟨rfl, rfl⟩) | (go_at_call 44; refine (K.out _ (G.refl _)).mono ?_; rintro e w' ⟨rfl, g1⟩))
  go_ret
  exact ⟨rfl, g1⟩

/-- The reference's own table, laid anew at each call. -/
def SinAt (w : World) (b : Nat) : Prop := ∀ k, k < 91 → w.cell? ⟨b, k, none⟩ = some (.int .i64 (tb k))
theorem sin_new (w : World) (T : Nat) (cs : Array Value) (h : cs = (sinT.map (Value.int .i64)).toArray) : SinAt (w.alloc (.cells cs T)) w.heap.size := by
  intro k hk
  have hl := sinT_len
  refine (World.cell?_alloc_at _ _ _ k rfl).trans ?_
  rw [h]
  unfold tb
  simp [List.getD, List.getElem?_eq_getElem (show k < sinT.length by omega)]

end Go.Proofs.YtmcddcdhppomkaaDoor
