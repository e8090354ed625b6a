/-
  Walks: one fixture: valid or not, what two of them share; by both texts.
-/
import Derived.Test.YtckenipmebeopaaStFixture
import Derived.Test.YtckenipmebeopaaNames
import Derived.Test.YtckenipmebeopaaExt
namespace Go.Proofs.Ytckenipmebeopaa
open Go.RowKit

def vfB (x : SFixture) : Bool := nameB x.Name && inB x.Universe 1 8 && inB x.Width 1 64 && inB x.Address 1 (513 - x.Width)
theorem vfB_bd {x : SFixture} (h : vfB x = true) : 1 ≤ x.Universe ∧ x.Universe ≤ 8 ∧ 1 ≤ x.Width ∧ x.Width ≤ 64 ∧ 1 ≤ x.Address ∧ x.Address + x.Width ≤ 513 := by
  simp only [vfB, Bool.and_eq_true, inB_iff] at h
  omega
/-- How many addresses two fixtures share. -/
def shF (a b : SFixture) : Int := if a.Universe = b.Universe then max 0 (min (a.Address + a.Width) (b.Address + b.Width) - max a.Address b.Address) else 0
theorem shF_other {a b : SFixture} (h : ¬ a.Universe = b.Universe) : shF a b = 0 := by unfold shF; rw [if_neg h]
theorem shF_same {a b : SFixture} (h : a.Universe = b.Universe) : shF a b = max 0 (min (a.Address + a.Width) (b.Address + b.Width) - max a.Address b.Address) := by unfold shF; rw [if_pos h]

set_option maxHeartbeats 400000 in
theorem l20Universe_any (n : Int) (w : World) :
    Calls Try.prog 54 #[.int .i64 n] w fun e w' => e = .returned (.bool (inB n 1 8)) ∧ w = w' := by
  go_enter Try.func54, Try.ntmps54
  go_wp2_with (go_at_call 56; refine (l00In_any _ _ _ _).mono ?_; rintro e w' ⟨rfl, rfl⟩)
  go_ret
  exact ⟨rfl, rfl⟩
set_option maxHeartbeats 400000 in
theorem l20Width_any (n : Int) (w : World) :
    Calls Try.prog 55 #[.int .i64 n] w fun e w' => e = .returned (.bool (inB n 1 64)) ∧ w = w' := by
  go_enter Try.func55, Try.ntmps55
  go_wp2_with (go_at_call 56; refine (l00In_any _ _ _ _).mono ?_; rintro e w' ⟨rfl, rfl⟩)
  go_ret
  exact ⟨rfl, rfl⟩

/-- The four ways of a fixture. -/
theorem vfB_cases (x : SFixture) (P : Prop) (k1 : nameB x.Name = false → vfB x = false → P) (k2 : nameB x.Name = true → inB x.Universe 1 8 = false → vfB x = false → P)
    (k3 : nameB x.Name = true → inB x.Universe 1 8 = true → inB x.Width 1 64 = false → vfB x = false → P) (k4 : nameB x.Name = true → inB x.Universe 1 8 = true → inB x.Width 1 64 = true → inB x.Address 1 (513 - x.Width) = vfB x → P) : P := by
  cases h1 : nameB x.Name
  · exact k1 h1 (by simp [vfB, h1])
  cases h2 : inB x.Universe 1 8
  · exact k2 h1 h2 (by simp [vfB, h2])
  cases h3 : inB x.Width 1 64
  · exact k3 h1 h2 h3 (by simp [vfB, h3])
  exact k4 h1 h2 h3 (by simp [vfB, h1, h2, h3])

set_option maxHeartbeats 1000000 in
theorem ValidFixture_any (x : SFixture) (w : World) (hw : WfFixture x) :
    Calls Try.prog 32 #[.agg #[.string x.Name, .int .i64 x.Universe, .int .i64 x.Address, .int .i64 x.Width]] w fun e w' => e = .returned (.bool (vfB x)) ∧ G w w' := by
  unfold WfFixture at hw
  refine vfB_cases x _ (fun h1 h => ?_) (fun h1 h2 h => ?_) (fun h1 h2 h3 h => ?_) (fun h1 h2 h3 h => ?_)
  case' refine_4 =>
    have hb := inB_iff.1 h3
  all_goals
    have H := Lib.hid h
    clear h
    go_enter Try.func32, Try.ntmps32
    go_wp2_with (first | (go_at_call 49; refine (IsName_any _ (by assumption) _).mono ?_; rintro e w' ⟨rfl, rfl⟩) | (go_at_call 26; refine (within_any _ _ _ _).mono ?_; rintro e w' ⟨rfl, rfl⟩))
    go_ret
    exact ⟨ret_bool (by first | exact H.out.symm | exact H.out), (G.refl _).alloc _⟩

set_option maxHeartbeats 1000000 in
theorem l20One_any (x : SFixture) (hw : WfFixture x) (b o : Nat) (w : World) (hc0 : w.cell? ⟨b, o, none⟩ = some (.string x.Name)) (hc1 : w.cell? ⟨b, o + 1, none⟩ = some (.int .i64 x.Universe)) (hc2 : w.cell? ⟨b, o + 2, none⟩ = some (.int .i64 x.Address)) (hc3 : w.cell? ⟨b, o + 3, none⟩ = some (.int .i64 x.Width)) :
    Calls Try.prog 43 #[.pointer (some ⟨b, o, none⟩)] w fun e w' => e = .returned (.bool (vfB x)) ∧ G w w' := by
  unfold WfFixture at hw
  have ga0 := cellR hc0
  have ga1 := cellR hc1
  have ga2 := cellR hc2
  have ga3 := cellR hc3
  clear hc0 hc1 hc2 hc3
  refine vfB_cases x _ (fun h1 h => ?_) (fun h1 h2 h => ?_) (fun h1 h2 h3 h => ?_) (fun h1 h2 h3 h => ?_)
  case' refine_4 =>
    have hb := inB_iff.1 h3
    have hw1 : IntKind.i64.wrap (513 - x.Width) = 513 - x.Width := IntWalk.i64_in _ (by omega)
  all_goals
    have H := Lib.hid h
    have K1 := Lib.hid (fun (W : World) => l01Name_any x.Name hw W)
    have K2 := Lib.hid (fun (W : World) => l20Universe_any x.Universe W)
    have K3 := Lib.hid (fun (W : World) => l20Width_any x.Width W)
    try rw [h1] at K1
    try rw [h2] at K2
    try rw [h3] at K3
    clear h
    go_enter Try.func43, Try.ntmps43
    go_wp2
    refine region_quiet_G (by kernel_rfl) (by kernel_rfl) ?_; (repeat (go_big_quiet_step ((first | (go_at_call 53; exact quiet_G_same (K1.out _)) | (go_at_call 54; exact quiet_G_same (K2.out _)) | (go_at_call 55; exact quiet_G_same (K3.out _)) | (go_at_call 56; exact quiet_G_same (l00In_any _ _ _ _)))))); refine wpQuiet_nil ?_
    intro w2 hg2
    clear ga0 ga1 ga2 ga3
    go_wp2
    go_ret
    exact ⟨ret_bool (by first | exact H.out.symm | exact H.out), hg2⟩

/-- Numbers of an ordinary size. -/
def Mid (x : SFixture) : Prop := -1000000000000 ≤ x.Address ∧ x.Address ≤ 1000000000000 ∧ -1000000000000 ≤ x.Width ∧ x.Width ≤ 1000000000000
theorem Mid_of {x : SFixture} (h : vfB x = true) : Mid x := by
  have := vfB_bd h
  unfold Mid
  omega

set_option maxHeartbeats 1000000 in
theorem sharedAddresses_any (x y : SFixture) (hx : Mid x) (hy : Mid y) (w : World) :
    Calls Try.prog 35 #[.agg #[.string x.Name, .int .i64 x.Universe, .int .i64 x.Address, .int .i64 x.Width], .agg #[.string y.Name, .int .i64 y.Universe, .int .i64 y.Address, .int .i64 y.Width]] w fun e w' => e = .returned (.int .i64 (shF x y)) ∧ G w w' := by
  unfold Mid at hx hy
  by_cases hu : x.Universe = y.Universe
  · have H := Lib.hid (shF_same hu)
    have hu2 : (x.Universe == y.Universe) = true := by simp [hu]
    clear hu
    go_enter Try.func35, Try.ntmps35
    go_wp2
    go_ret
    exact ⟨ret_int H.out.symm, ((G.refl _).alloc _).alloc _⟩
  · have H := Lib.hid (shF_other hu)
    go_enter Try.func35, Try.ntmps35
    go_wp2
    go_ret
    exact ⟨ret_int H.out.symm, ((G.refl _).alloc _).alloc _⟩

set_option maxHeartbeats 1000000 in
theorem l20Shared_any (x y : SFixture) (hx : Mid x) (hy : Mid y) (b o b2 o2 : Nat) (w : World) (hc1 : w.cell? ⟨b, o + 1, none⟩ = some (.int .i64 x.Universe)) (hc2 : w.cell? ⟨b, o + 2, none⟩ = some (.int .i64 x.Address)) (hc3 : w.cell? ⟨b, o + 3, none⟩ = some (.int .i64 x.Width))
    (hd1 : w.cell? ⟨b2, o2 + 1, none⟩ = some (.int .i64 y.Universe)) (hd2 : w.cell? ⟨b2, o2 + 2, none⟩ = some (.int .i64 y.Address)) (hd3 : w.cell? ⟨b2, o2 + 3, none⟩ = some (.int .i64 y.Width)) :
    Calls Try.prog 52 #[.pointer (some ⟨b, o, none⟩), .pointer (some ⟨b2, o2, none⟩)] w fun e w' => e = .returned (.int .i64 (shF x y)) ∧ G w w' := by
  unfold Mid at hx hy
  have ga1 := cellR hc1
  have gb1 := cellR hd1
  by_cases hu : x.Universe = y.Universe
  · have H := Lib.hid (shF_same hu)
    have hu2 : (x.Universe == y.Universe) = true := by simp [hu]
    have hu3 : (x.Universe != y.Universe) = false := by simp [hu]
    clear hu
    go_enter Try.func52, Try.ntmps52
    go_wp2
    refine region_quiet_G (by kernel_rfl) (by kernel_rfl) ?_; (repeat (go_big_quiet_step ((fail)))); refine wpQuiet_nil ?_
    intro w2 hg2
    have G1 := Lib.hid hg2
    have ga2 := cellR (hg2.cell hc2)
    have ga3 := cellR (hg2.cell hc3)
    have gb2 := cellR (hg2.cell hd2)
    have gb3 := cellR (hg2.cell hd3)
    have e1 : IntKind.i64.wrap (x.Address + x.Width) = x.Address + x.Width := IntWalk.i64_in _ (by omega)
    have e2 : IntKind.i64.wrap (y.Address + y.Width) = y.Address + y.Width := IntWalk.i64_in _ (by omega)
    have e3 : IntKind.i64.wrap (min (x.Address + x.Width) (y.Address + y.Width) - max x.Address y.Address) = min (x.Address + x.Width) (y.Address + y.Width) - max x.Address y.Address := IntWalk.i64_in _ (by omega)
    clear hg2 hc1 hc2 hc3 hd1 hd2 hd3 ga1 gb1
    go_wp2
    refine region_quiet_G (by kernel_rfl) (by kernel_rfl) ?_; (repeat (go_big_quiet_step ((first | (go_at_call 61; exact quiet_G_same (l00Min_any _ _ _)) | (go_at_call 60; exact quiet_G_same (l00Max_any _ _ _)))))); refine wpQuiet_nil ?_
    intro w3 hg3
    clear e1 e2 e3 ga2 ga3 gb2 gb3
    go_wp2
    go_ret
    exact ⟨ret_int H.out.symm, G1.out.trans hg3⟩
  · have H := Lib.hid (shF_other hu)
    go_enter Try.func52, Try.ntmps52
    go_wp2
    refine region_quiet_G (by kernel_rfl) (by kernel_rfl) ?_; (repeat (go_big_quiet_step ((fail)))); refine wpQuiet_nil ?_
    intro w2 hg2
    clear ga1 gb1
    go_wp2
    go_ret
    exact ⟨ret_int H.out.symm, hg2⟩
end Go.Proofs.Ytckenipmebeopaa
