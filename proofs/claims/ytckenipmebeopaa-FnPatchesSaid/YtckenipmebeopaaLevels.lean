/-
  Walks: valid levels, valid widths, by both texts.
-/
import Derived.Test.YtckenipmebeopaaInts
import Derived.Test.YtckenipmebeopaaNear
namespace Go.Proofs.Ytckenipmebeopaa
open Go.RowKit

def okL (x : Int) : Bool := inB x 0 255
def okW (x : Int) : Bool := inB x 1 64
def lvs (L : List Int) : Bool := decide (L.length ≤ 512) && L.all okL
def wds (L : List Int) : Bool := decide (L.length ≤ 16) && L.all okW
theorem any_not {p : Int → Bool} {L : List Int} : (L.any fun x => !p x) = !L.all p := by
  induction L with
  | nil => rfl
  | cons y L ih => simp only [List.any_cons, List.all_cons, ih]; cases p y <;> simp
theorem okL_bd {x : Int} (h : okL x = true) : 0 ≤ x ∧ x ≤ 255 := inB_iff.1 h
theorem okW_bd {x : Int} (h : okW x = true) : 1 ≤ x ∧ x ≤ 64 := inB_iff.1 h
theorem lvs_all {L : List Int} (h : lvs L = true) : L.length ≤ 512 ∧ L.all okL = true := by unfold lvs at h; simpa using h
theorem wds_all {L : List Int} (h : wds L = true) : L.length ≤ 16 ∧ L.all okW = true := by unfold wds at h; simpa using h
theorem lvs_at {L : List Int} (h : lvs L = true) {k : Nat} {x : Int} (hx : L[k]? = some x) : 0 ≤ x ∧ x ≤ 255 := okL_bd (all_at (lvs_all h).2 hx)
theorem wds_at {L : List Int} (h : wds L = true) {k : Nat} {x : Int} (hx : L[k]? = some x) : 1 ≤ x ∧ x ≤ 64 := okW_bd (all_at (wds_all h).2 hx)
/-- The place of the first number that is not as asked, or -1. -/
def idxNot (p : Int → Bool) (L : List Int) : Int := match L.findIdx? (fun x => !p x) with
  | some k => k
  | none => -1
theorem idxNot_hit {p : Int → Bool} {L : List Int} {k : Nat} {x : Int} (hx : L[k]? = some x) (ha : (L.take k).all p = true) (hp : p x = false) : idxNot p L = k := by
  have : L.findIdx? (fun x => !p x) = some k := by
    rw [List.findIdx?_eq_some_iff_getElem]
    obtain ⟨hk, rfl⟩ := List.getElem?_eq_some_iff.1 hx
    refine ⟨hk, by simp [hp], fun j hj => ?_⟩
    have := List.all_eq_true.1 ha L[j] (List.mem_iff_getElem?.2 ⟨j, by rw [List.getElem?_take, if_pos hj]; exact List.getElem?_eq_getElem _⟩)
    simpa using this
  unfold idxNot; rw [this]
theorem idxNot_none {p : Int → Bool} {L : List Int} (ha : L.all p = true) : idxNot p L = -1 := by
  have : L.findIdx? (fun x => !p x) = none := by
    rw [List.findIdx?_eq_none_iff]
    intro x hx
    simp [List.all_eq_true.1 ha x hx]
  unfold idxNot; rw [this]
theorem idxNot_all {p : Int → Bool} {L : List Int} : decide (0 ≤ idxNot p L) = !L.all p := by
  cases h : L.all p
  · have : ∃ k, L.findIdx? (fun x => !p x) = some k := by
      cases h2 : L.findIdx? (fun x => !p x) with
      | some k => exact ⟨k, rfl⟩
      | none =>
        rw [List.findIdx?_eq_none_iff] at h2
        have : L.all p = true := by rw [List.all_eq_true]; intro x hx; have := h2 x hx; simpa using this
        rw [h] at this; cases this
    obtain ⟨k, hk⟩ := this
    unfold idxNot; rw [hk]; simp
  · rw [idxNot_none h]; rfl

set_option maxHeartbeats 400000 in
theorem areLevels1_any (x : Int) (w : World) :
    Calls Try.prog 47 #[.int .i64 x] w fun e w' => e = .returned (.bool (!okL x)) ∧ w = w' := by
  cases h : inB x 0 255
  · have H := Lib.hid (show (!okL x) = true by simp [okL, h])
    go_enter Try.func47, Try.ntmps47
    go_wp2_with (go_at_call 26; refine (within_any _ _ _ _).mono ?_; rintro e w' ⟨rfl, rfl⟩)
    go_ret
    exact ⟨ret_bool H.out.symm, rfl⟩
  · have H := Lib.hid (show (!okL x) = false by simp [okL, h])
    go_enter Try.func47, Try.ntmps47
    go_wp2_with (go_at_call 26; refine (within_any _ _ _ _).mono ?_; rintro e w' ⟨rfl, rfl⟩)
    go_ret
    exact ⟨ret_bool H.out.symm, rfl⟩

set_option maxHeartbeats 1000000 in
theorem areLevelsIx_any (A : Option Addr) (n c : Nat) (L : List Int) (w : World) (hr : Rd w A 1 iv L) (hn : L.length = n) (hb : n ≤ 4194304) :
    Calls Try.prog 58 #[.slice A n c, .func (.func 47) #[] #[]] w fun e w' => e = .returned (.int .i64 (idxNot okL L)) ∧ w = w' := by
  have Hn := Lib.hid hn
  have HR := Lib.hid hr
  clear hr hn
  go_enter Try.func58, Try.ntmps58
  go_wp2
  go_loop [8] (fun i => ∃ k : Nat, k ≤ n ∧ i = .int .i64 k ∧ (L.take k).all okL = true) (fun i => n - (intOf i).toNat)
  case atStart => exact ⟨0, Nat.zero_le _, rfl, by simp⟩
  case round =>
    obtain ⟨k, hk, rfl, ha⟩ := hrel
    have HA := Lib.hid ha
    clear ha
    by_cases hlt : k < n
    · obtain ⟨b, o, x, rfl, hx, hc⟩ := HR.out.int (k := k) (by rw [Hn.out]; exact hlt)
      have HX := Lib.hid hx
      clear hx
      have K := Lib.hid (areLevels1_any x w)
      cases hv : okL x
      · rw [hv] at K
        have H := Lib.hid (idxNot_hit HX.out HA.out hv)
        clear hv
        go_wp2_with (go_at_call 47; refine K.out.mono ?_; rintro e w' ⟨rfl, rfl⟩)
        go_ret
        exact ⟨ret_int H.out.symm, rfl⟩
      · rw [hv] at K
        have H := Lib.hid (all_snoc HX.out HA.out hv)
        clear hv
        go_wp2_with (go_at_call 47; refine K.out.mono ?_; rintro e w' ⟨rfl, rfl⟩)
        go_round
        case rel => exact ⟨k + 1, by omega, by go_num, H.out⟩
        case measure => simp [intOf]; omega
    · have H := Lib.hid (idxNot_none (all_take_all (by rw [Hn.out]; omega) HA.out))
      go_wp2
      go_ret
      exact ⟨ret_int H.out.symm, rfl⟩

set_option maxHeartbeats 1000000 in
theorem areLevels_any (A : Option Addr) (n c : Nat) (L : List Int) (w : World) (hr : Rd w A 1 iv L) (hn : L.length = n) (hb : n ≤ 4194304) :
    Calls Try.prog 27 #[.slice A n c] w fun e w' => e = .returned (.bool (lvs L)) ∧ w = w' := by
  have K := Lib.hid (areLevelsIx_any A n c L w hr hn hb)
  by_cases hl : n ≤ 512
  · cases ha : L.all okL
    · have H := Lib.hid (show lvs L = false by unfold lvs; rw [ha]; simp)
      have H2 := idxNot_all (p := okL) (L := L)
      rw [ha] at H2
      obtain ⟨i, HI⟩ : ∃ i, Hid (idxNot okL L = i) := ⟨_, rfl⟩
      rw [HI.out] at K H2
      have hi : 0 ≤ i := by simpa using H2
      clear ha hr hn H2
      go_enter Try.func27, Try.ntmps27
      go_wp2_with (first | (go_at_call 58; refine K.out.mono ?_; rintro e w' ⟨rfl, rfl⟩) | go_in)
      go_ret
      exact ⟨ret_bool H.out.symm, rfl⟩
    · have H := Lib.hid (show lvs L = true by unfold lvs; rw [ha, hn]; simp; omega)
      rw [idxNot_none ha] at K
      clear ha hr hn
      go_enter Try.func27, Try.ntmps27
      go_wp2_with (first | (go_at_call 58; refine K.out.mono ?_; rintro e w' ⟨rfl, rfl⟩) | go_in)
      go_ret
      exact ⟨ret_bool H.out.symm, rfl⟩
  · have H := Lib.hid (show lvs L = false by unfold lvs; rw [hn, decide_eq_false hl]; simp)
    clear hr hn K
    go_enter Try.func27, Try.ntmps27
    go_wp2
    go_ret
    exact ⟨ret_bool H.out.symm, rfl⟩

set_option maxHeartbeats 400000 in
theorem l20WidthW_any (n : Int) (w : World) :
    Calls Try.prog 55 #[.int .i64 n] w fun e w' => e = .returned (.bool (inB n 1 64)) ∧ w = w' := by
  go_enter Try.func55, Try.ntmps55
  go_wp2_with (go_at_call 56; refine (l00In_any _ _ _ _).mono ?_; rintro e w' ⟨rfl, rfl⟩)
  go_ret
  exact ⟨rfl, rfl⟩

end Go.Proofs.Ytckenipmebeopaa
