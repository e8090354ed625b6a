/-
  Walks: one cue: valid or not; which of two stands first; by both texts.
-/
import Derived.Test.YtecakcgkibemaaaGreatDoorStCue
import Derived.Test.YtecakcgkibemaaaGreatDoorNames
import Derived.Test.YtecakcgkibemaaaGreatDoorChk
namespace Go.Proofs.YtecakcgkibemaaaGreatDoor
open Go.RowKit

def actB (x : SCue) : Bool := if x.Action = 1 then x.Length == 0 else if x.Action = 2 then inB x.Length 1 (7200000 - x.Time) else if x.Action = 3 then x.Length == 0 && x.Value == 0 else false
def vcuB (x : SCue) : Bool := nameB x.Id && nameB x.Target && inB x.Time 0 7200000 && inB x.Value 0 1000 && actB x
def ltCu (a b : SCue) : Bool := decide (a.Time < b.Time) || (a.Time == b.Time && ltS a.Id b.Id)
theorem vcuB_bd {x : SCue} (h : vcuB x = true) : 0 ≤ x.Time ∧ x.Time ≤ 7200000 ∧ 0 ≤ x.Value ∧ x.Value ≤ 1000 ∧ 0 ≤ x.Length ∧ x.Time + x.Length ≤ 7200000 ∧ 1 ≤ x.Action ∧ x.Action ≤ 3 ∧ (x.Action = 2 → 1 ≤ x.Length) := by
  simp only [vcuB, Bool.and_eq_true, inB_iff, actB] at h
  obtain ⟨⟨⟨_, ht⟩, hv⟩, ha⟩ := h
  split at ha
  · simp only [beq_iff_eq] at ha; omega
  · split at ha
    · have := inB_iff.1 ha; omega
    · split at ha
      · simp only [Bool.and_eq_true, beq_iff_eq] at ha; omega
      · cases ha
theorem vcuB_names {x : SCue} (h : vcuB x = true) : nameB x.Id = true ∧ nameB x.Target = true := by
  simp only [vcuB, Bool.and_eq_true] at h
  exact h.1.1.1
/-- The ways of a cue. -/
theorem vcuB_cases (x : SCue) (P : Prop) (k1 : nameB x.Id = false → vcuB x = false → P) (k2 : nameB x.Id = true → nameB x.Target = false → vcuB x = false → P)
    (k3 : nameB x.Id = true → nameB x.Target = true → inB x.Time 0 7200000 = false → vcuB x = false → P)
    (k4 : nameB x.Id = true → nameB x.Target = true → inB x.Time 0 7200000 = true → inB x.Value 0 1000 = false → vcuB x = false → P)
    (k5 : nameB x.Id = true → nameB x.Target = true → inB x.Time 0 7200000 = true → inB x.Value 0 1000 = true → vcuB x = actB x → P) : P := by
  cases h1 : nameB x.Id
  · exact k1 h1 (by simp [vcuB, h1])
  cases h2 : nameB x.Target
  · exact k2 h1 h2 (by simp [vcuB, h1, h2])
  cases h3 : inB x.Time 0 7200000
  · exact k3 h1 h2 h3 (by simp [vcuB, h1, h2, h3])
  cases h4 : inB x.Value 0 1000
  · exact k4 h1 h2 h3 h4 (by simp [vcuB, h1, h2, h3, h4])
  exact k5 h1 h2 h3 h4 (by simp [vcuB, h1, h2, h3, h4])
theorem actB_cases (x : SCue) (P : Prop) (k1 : (x.Action == 1) = true → actB x = (x.Length == 0) → P)
    (k2 : (x.Action == 1) = false → (x.Action == 2) = true → actB x = inB x.Length 1 (7200000 - x.Time) → P)
    (k3 : (x.Action == 1) = false → (x.Action == 2) = false → (x.Action == 3) = true → (x.Length == 0) = false → actB x = false → P)
    (k4 : (x.Action == 1) = false → (x.Action == 2) = false → (x.Action == 3) = true → (x.Length == 0) = true → actB x = (x.Value == 0) → P)
    (k5 : (x.Action == 1) = false → (x.Action == 2) = false → (x.Action == 3) = false → actB x = false → P) : P := by
  by_cases h1 : x.Action = 1
  · exact k1 (by simp [h1]) (by simp [actB, h1])
  by_cases h2 : x.Action = 2
  · exact k2 (by simp [h2]) (by simp [h2]) (by simp [actB, h2])
  by_cases h3 : x.Action = 3
  · by_cases h4 : x.Length = 0
    · exact k4 (by simp [h3]) (by simp [h3]) (by simp [h3]) (by simp [h4]) (by simp [actB, h3, h4])
    · exact k3 (by simp [h3]) (by simp [h3]) (by simp [h3]) (by simpa using h4) (by simp [actB, h3, h4])
  · exact k5 (by simpa using h1) (by simpa using h2) (by simpa using h3) (by simp [actB, h1, h2, h3])

set_option maxRecDepth 20000 in
set_option maxHeartbeats 2000000 in
theorem ValidCue_any (x : SCue) (w : World) (hw : WfCue x) :
    Calls Tryz.prog 36 #[.agg #[.string x.Id, .int .i64 x.Time, .int .i64 x.Length, .string x.Target, .int .i64 x.Action, .int .i64 x.Value]] w fun e w' => e = .returned (.bool (vcuB x)) ∧ G w w' := by
  unfold WfCue at hw
  obtain ⟨hw1, hw2⟩ := hw
  refine vcuB_cases x _ (fun h1 h => ?_) (fun h1 h2 h => ?_) (fun h1 h2 h3 h => ?_) (fun h1 h2 h3 h4 h => ?_) (fun h1 h2 h3 h4 h => ?_)
  case' refine_5 =>
    have hb := inB_iff.1 h3
    refine actB_cases x _ (fun q1 q => ?_) (fun q1 q2 q => ?_) (fun q1 q2 q3 q4 q => ?_) (fun q1 q2 q3 q4 q => ?_) (fun q1 q2 q3 q => ?_)
    all_goals rw [q] at h; clear q
  all_goals
    have H := Lib.hid h
    clear h
    go_enter Tryz.func36, Tryz.ntmps36
    go_wp2_with (first | (go_at_call 51; refine (IsName_any _ (by assumption) _).mono ?_; rintro e w' ⟨rfl, rfl⟩) | (go_at_call 28; refine (within_any _ _ _ _).mono ?_; rintro e w' ⟨rfl, rfl⟩))
    go_ret
    exact ⟨ret_bool (by first | exact H.out.symm | exact H.out), (G.refl _).alloc _⟩

set_option maxHeartbeats 400000 in
theorem l13Time_any (n : Int) (w : World) :
    Calls Tryz.prog 56 #[.int .i64 n] w fun e w' => e = .returned (.bool (inB n 0 7200000)) ∧ w = w' := by
  go_enter Tryz.func56, Tryz.ntmps56
  go_wp2_with (go_at_call 57; refine (l00In_any _ _ _ _).mono ?_; rintro e w' ⟨rfl, rfl⟩)
  go_ret
  exact ⟨rfl, rfl⟩
end Go.Proofs.YtecakcgkibemaaaGreatDoor
