/-
  Walks: when the last cue ends, by both texts.
-/
import Derived.Test.YtecakcgkibemaaaGreatDoorValidCues
namespace Go.Proofs.YtecakcgkibemaaaGreatDoor
open Go.RowKit

def endL (L : List SCue) : Int := L.foldl (fun e x => max e (x.Time + x.Length)) 0
theorem endL_take {L : List SCue} {k : Nat} {x : SCue} (hx : L[k]? = some x) : endL (L.take (k + 1)) = max (endL (L.take k)) (x.Time + x.Length) := by
  unfold endL
  rw [take_snoc hx, List.foldl_append]; rfl
theorem endL_bd {L : List SCue} (h : vcus L = true) : ∀ k, 0 ≤ endL (L.take k) ∧ endL (L.take k) ≤ 7200000 := by
  intro k
  induction k with
  | zero => simp [endL]
  | succ k ih =>
    cases hx : L[k]? with
    | none =>
      rw [List.getElem?_eq_none_iff] at hx
      rw [List.take_of_length_le hx] at ih
      rw [List.take_of_length_le (by omega)]
      exact ih
    | some x =>
      rw [endL_take hx]
      have := vcuB_bd (vcus_at h hx)
      omega
theorem endL_all {L : List SCue} (h : vcus L = true) : 0 ≤ endL L ∧ endL L ≤ 7200000 := by
  have := endL_bd h L.length
  rw [List.take_length] at this
  exact this
def showEnd (L : List SCue) : Int × Int := if vcus L = true then (endL L, 0) else (0, 1)

set_option maxHeartbeats 1000000 in
theorem ShowEnd_any (A : Option Addr) (n c : Nat) (L : List SCue) (w : World) (hr : Rd w A 6 cCue L) (hn : L.length = n) (hb : n ≤ 4194304) (hcap : n ≤ c) (hwf : ∀ x ∈ L, WfCue x) :
    Calls Tryz.prog 24 #[.slice A n c] w fun e w' => e = .returned (.tuple #[.int .i64 (showEnd L).1, .int .i64 (showEnd L).2]) ∧ G w w' := by
  have K := Lib.hid (ValidCues_any A n c L w hr hn hb hcap hwf)
  have Hn := Lib.hid hn
  have HR := Lib.hid hr
  clear hr hn hwf
  cases hv : vcus L
  · have H := Lib.hid (show showEnd L = (0, 1) by unfold showEnd; rw [hv]; simp)
    rw [hv] at K
    clear hv
    go_enter Tryz.func24, Tryz.ntmps24
    go_wp2_with (go_at_call 38; refine K.out.mono ?_; rintro e w1 ⟨rfl, g1⟩)
    go_ret2
    exact ⟨ret_ii H.out, g1⟩
  have HE := Lib.hid (show showEnd L = (endL L, 0) by unfold showEnd; rw [hv]; simp)
  have HV := Lib.hid hv
  rw [hv] at K
  clear hv
  go_enter Tryz.func24, Tryz.ntmps24
  go_wp2_with (go_at_call 38; refine K.out.mono ?_; rintro e w1 ⟨rfl, g1⟩; have G1 := Lib.hid g1; clear g1)
  clear K
  go_loopw [12, 4] (fun i v wr => ∃ (k : Nat) (r : Int), k ≤ n ∧ i = .int .i64 k ∧ v = .int .i64 r ∧ endL (L.take k) = r ∧ G w wr) (fun i _ _ => n - (intOf i).toNat)
  case atStart => exact ⟨0, 0, Nat.zero_le _, rfl, rfl, rfl, G1.out⟩
  case round =>
    obtain ⟨k, r, hk, rfl, rfl, ha, hg⟩ := hrel
    have HA := Lib.hid ha
    have G0 := Lib.hid hg
    have hrb := endL_bd HV.out k
    rw [ha] at hrb
    clear ha hg
    by_cases hlt : k < n
    · obtain ⟨b, o, x, rfl, hx, hc0, hc1, hc2, hc3, hc4, hc5⟩ := (HR.out.G G0.out).Cue (k := k) (by rw [Hn.out]; exact hlt)
      have hxb := vcuB_bd (vcus_at HV.out hx)
      have HS := Lib.hid (show endL (L.take (k + 1)) = max r (x.Time + x.Length) by rw [endL_take hx, HA.out])
      clear hx
      have e1 : IntKind.i64.wrap (x.Time + x.Length) = x.Time + x.Length := IntWalk.i64_in _ (by omega)
      go_wp2
      go_roundw
      case rel => exact ⟨k + 1, _, by omega, by go_num, rfl, HS.out, G0.out.alloc _⟩
      case measure => simp [intOf]; omega
    · have HN := Lib.hid (show endL L = r by rw [← HA.out, List.take_of_length_le (by rw [Hn.out]; omega)])
      go_wp2
      go_ret2
      exact ⟨ret_ii (by rw [HE.out, HN.out]), G0.out⟩

set_option maxHeartbeats 1000000 in
theorem l13End_any (A : Option Addr) (n c : Nat) (L : List SCue) (w : World) (hr : Rd w A 6 cCue L) (hn : L.length = n) (hb : n ≤ 4194304) (hv : vcus L = true) :
    Calls Tryz.prog 27 #[.slice A n c] w fun e w' => e = .returned (.int .i64 (endL L)) ∧ G w w' := by
  have Hn := Lib.hid hn
  have HR := Lib.hid hr
  have HV := Lib.hid hv
  clear hr hn hv
  go_enter Tryz.func27, Tryz.ntmps27
  go_wp2
  go_loopw [4, 3] (fun i v wr => ∃ (k : Nat) (r : Int), k ≤ n ∧ i = .int .i64 k ∧ v = .int .i64 r ∧ endL (L.take k) = r ∧ G w wr) (fun i _ _ => n - (intOf i).toNat)
  case atStart => exact ⟨0, 0, Nat.zero_le _, rfl, rfl, rfl, G.refl _⟩
  case round =>
    obtain ⟨k, r, hk, rfl, rfl, ha, hg⟩ := hrel
    have HA := Lib.hid ha
    have G0 := Lib.hid hg
    have hrb := endL_bd HV.out k
    rw [ha] at hrb
    clear ha hg
    by_cases hlt : k < n
    · obtain ⟨b, o, x, rfl, hx, hc0, hc1, hc2, hc3, hc4, hc5⟩ := (HR.out.G G0.out).Cue (k := k) (by rw [Hn.out]; exact hlt)
      have hxb := vcuB_bd (vcus_at HV.out hx)
      have HS := Lib.hid (show endL (L.take (k + 1)) = max r (x.Time + x.Length) by rw [endL_take hx, HA.out])
      clear hx
      have gd1 := cellR hc1
      have gd2 := cellR hc2
      have hlt2 : (k : Int) < (n : Int) := by omega
      have hk0 : 0 ≤ (k : Int) := by omega
      have e1 : IntKind.i64.wrap (x.Time + x.Length) = x.Time + x.Length := IntWalk.i64_in _ (by omega)
      have KM := Lib.hid (fun W => l00Max_any r (x.Time + x.Length) W)
      go_wp2
      refine region_quiet_G (by kernel_rfl) (by kernel_rfl) ?_; (repeat (go_big_quiet_step (((go_at_call 42; exact quiet_G_same (KM.out _)))))); refine wpQuiet_nil ?_
      intro w2 g2
      have G2 := Lib.hid (G0.out.trans g2)
      clear e1 gd1 gd2 g2 KM
      go_wp2
      go_roundw
      case rel => exact ⟨k + 1, _, by omega, by go_num, rfl, HS.out, G2.out⟩
      case measure => simp [intOf]; omega
    · have HN := Lib.hid (show endL L = r by rw [← HA.out, List.take_of_length_le (by rw [Hn.out]; omega)])
      go_wp2
      go_ret
      exact ⟨ret_int HN.out.symm, G0.out⟩
end Go.Proofs.YtecakcgkibemaaaGreatDoor
