/-
  Walks: one fixture: valid or not, what two of them share; by both texts.
-/
import Derived.Test.YtckenipmebeopaaDoorStFixture
import Derived.Test.YtckenipmebeopaaDoorNames
import Derived.Test.YtckenipmebeopaaDoorExt
namespace Go.Proofs.YtckenipmebeopaaDoor
open Go.RowKit

def vfB (x : SFixture) : Bool := nameB x.Name && inB x.Universe 1 8 && inB x.Width 1 64 && inB x.Address 1 (513 - x.Width)
theorem vfB_bd {x : SFixture} (h : vfB x = true) : 1 ≤ x.Universe ∧ x.Universe ≤ 8 ∧ 1 ≤ x.Width ∧ x.Width ≤ 64 ∧ 1 ≤ x.Address ∧ x.Address + x.Width ≤ 513 := by
  simp only [vfB, Bool.and_eq_true, inB_iff] at h
  omega
/-- How many addresses two fixtures share. -/
def shF (a b : SFixture) : Int := if a.Universe = b.Universe then max 0 (min (a.Address + a.Width) (b.Address + b.Width) - max a.Address b.Address) else 0
theorem shF_other {a b : SFixture} (h : ¬ a.Universe = b.Universe) : shF a b = 0 := by unfold shF; rw [if_neg h]
theorem shF_same {a b : SFixture} (h : a.Universe = b.Universe) : shF a b = max 0 (min (a.Address + a.Width) (b.Address + b.Width) - max a.Address b.Address) := by unfold shF; rw [if_pos h]

set_option maxHeartbeats 400000 in
theorem l20Universe_any (n : Int) (w : World) :
    Calls Tryd.prog 20 #[.int .i64 n] w fun e w' => e = .returned (.bool (inB n 1 8)) ∧ w = w' := by
  go_enter Tryd.func20, Tryd.ntmps20
  go_wp2_with (go_at_call 22; refine (l00In_any _ _ _ _).mono ?_; rintro e w' ⟨rfl, rfl⟩)
  go_ret
  exact ⟨rfl, rfl⟩
set_option maxHeartbeats 400000 in
theorem l20Width_any (n : Int) (w : World) :
    Calls Tryd.prog 21 #[.int .i64 n] w fun e w' => e = .returned (.bool (inB n 1 64)) ∧ w = w' := by
  go_enter Tryd.func21, Tryd.ntmps21
  go_wp2_with (go_at_call 22; refine (l00In_any _ _ _ _).mono ?_; rintro e w' ⟨rfl, rfl⟩)
  go_ret
  exact ⟨rfl, rfl⟩

/-- The four ways of a fixture. -/
theorem vfB_cases (x : SFixture) (P : Prop) (k1 : nameB x.Name = false → vfB x = false → P) (k2 : nameB x.Name = true → inB x.Universe 1 8 = false → vfB x = false → P)
    (k3 : nameB x.Name = true → inB x.Universe 1 8 = true → inB x.Width 1 64 = false → vfB x = false → P) (k4 : nameB x.Name = true → inB x.Universe 1 8 = true → inB x.Width 1 64 = true → inB x.Address 1 (513 - x.Width) = vfB x → P) : P := by
  cases h1 : nameB x.Name
  · exact k1 h1 (by simp [vfB, h1])
  cases h2 : inB x.Universe 1 8
  · exact k2 h1 h2 (by simp [vfB, h2])
  cases h3 : inB x.Width 1 64
  · exact k3 h1 h2 h3 (by simp [vfB, h3])
  exact k4 h1 h2 h3 (by simp [vfB, h1, h2, h3])

set_option maxHeartbeats 1000000 in
theorem ValidFixture_any (x : SFixture) (w : World) (hw : WfFixture x) :
    Calls Tryd.prog 14 #[.agg #[.string x.Name, .int .i64 x.Universe, .int .i64 x.Address, .int .i64 x.Width]] w fun e w' => e = .returned (.bool (vfB x)) ∧ G w w' := by
  unfold WfFixture at hw
  refine vfB_cases x _ (fun h1 h => ?_) (fun h1 h2 h => ?_) (fun h1 h2 h3 h => ?_) (fun h1 h2 h3 h => ?_)
  case' refine_4 =>
    have hb := inB_iff.1 h3
  all_goals
    have H := Lib.hid h
    clear h
    go_enter Tryd.func14, Tryd.ntmps14
    go_wp2_with (first | (go_at_call 24; refine (IsName_any _ (by assumption) _).mono ?_; rintro e w' ⟨rfl, rfl⟩) | (go_at_call 25; refine (within_any _ _ _ _).mono ?_; rintro e w' ⟨rfl, rfl⟩))
    go_ret
    exact ⟨ret_bool (by first | exact H.out.symm | exact H.out), (G.refl _).alloc _⟩

set_option maxHeartbeats 1000000 in
theorem l20One_any (x : SFixture) (hw : WfFixture x) (b o : Nat) (w : World) (hc0 : w.cell? ⟨b, o, none⟩ = some (.string x.Name)) (hc1 : w.cell? ⟨b, o + 1, none⟩ = some (.int .i64 x.Universe)) (hc2 : w.cell? ⟨b, o + 2, none⟩ = some (.int .i64 x.Address)) (hc3 : w.cell? ⟨b, o + 3, none⟩ = some (.int .i64 x.Width)) :
    Calls Tryd.prog 12 #[.pointer (some ⟨b, o, none⟩)] w fun e w' => e = .returned (.bool (vfB x)) ∧ G w w' := by
  unfold WfFixture at hw
  have ga0 := cellR hc0
  have ga1 := cellR hc1
  have ga2 := cellR hc2
  have ga3 := cellR hc3
  clear hc0 hc1 hc2 hc3
  refine vfB_cases x _ (fun h1 h => ?_) (fun h1 h2 h => ?_) (fun h1 h2 h3 h => ?_) (fun h1 h2 h3 h => ?_)
  case' refine_4 =>
    have hb := inB_iff.1 h3
    have hw1 : IntKind.i64.wrap (513 - x.Width) = 513 - x.Width := IntWalk.i64_in _ (by omega)
  all_goals
    have H := Lib.hid h
    have K1 := Lib.hid (fun (W : World) => l01Name_any x.Name hw W)
    have K2 := Lib.hid (fun (W : World) => l20Universe_any x.Universe W)
    have K3 := Lib.hid (fun (W : World) => l20Width_any x.Width W)
    try rw [h1] at K1
    try rw [h2] at K2
    try rw [h3] at K3
    clear h
    go_enter Tryd.func12, Tryd.ntmps12
    go_wp2
    refine region_quiet_G (by kernel_rfl) (by kernel_rfl) ?_; (repeat (go_big_quiet_step ((first | (go_at_call 19; exact quiet_G_same (K1.out _)) | (go_at_call 20; exact quiet_G_same (K2.out _)) | (go_at_call 21; exact quiet_G_same (K3.out _)) | (go_at_call 22; exact quiet_G_same (l00In_any _ _ _ _)))))); refine wpQuiet_nil ?_
    intro w2 hg2
    clear ga0 ga1 ga2 ga3
    go_wp2
    go_ret
    exact ⟨ret_bool (by first | exact H.out.symm | exact H.out), hg2⟩

/-- Numbers of an ordinary size. -/
def Mid (x : SFixture) : Prop := -1000000000000 ≤ x.Address ∧ x.Address ≤ 1000000000000 ∧ -1000000000000 ≤ x.Width ∧ x.Width ≤ 1000000000000
theorem Mid_of {x : SFixture} (h : vfB x = true) : Mid x := by
  have := vfB_bd h
  unfold Mid
  omega

end Go.Proofs.YtckenipmebeopaaDoor
