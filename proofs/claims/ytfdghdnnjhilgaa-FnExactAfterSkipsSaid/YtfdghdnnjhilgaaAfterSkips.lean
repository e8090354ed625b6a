/-
  Walks: AfterSkips, by both texts.
-/
import Derived.Test.YtfdghdnnjhilgaaValidSkips
import Derived.Test.YtfdghdnnjhilgaaInts
import Derived.Test.YtfdghdnnjhilgaaExt
namespace Go.Proofs.Ytfdghdnnjhilgaa
open Go.RowKit

def ltI (a b : Int) : Bool := decide (a < b)
/-- Rising numbers between lo and hi. -/
def rises (M : List Int) (lo hi : Int) : Bool := chk (fun x => inB x lo hi) ltI M
theorem rises_at {M : List Int} {lo hi : Int} (h : rises M lo hi = true) {k : Nat} {x : Int} (hx : M[k]? = some x) : lo ≤ x ∧ x ≤ hi := inB_iff.1 (chk_all (p := fun x => inB x lo hi) (r := ltI) h hx)
def cutL (L : List SSkip) (t : Int) (i : Int) : Int := match L[i.toNat]? with
  | some x => max 0 (min (t - x.From) x.Length)
  | none => 0
def aft (L : List SSkip) (t : Int) (M : List Int) : Int := M.foldl (fun r i => r - cutL L t i) t
def afterR (L : List SSkip) (M : List Int) (t : Int) : Int × Int := if vks L = false then (0, 1) else if rises M 0 (L.length - 1) = false then (0, 2) else if inB t 0 7200000 = false then (0, 2) else (aft L t M, 0)
theorem cutL_bd {L : List SSkip} (h : vks L = true) (t i : Int) : 0 ≤ cutL L t i ∧ cutL L t i ≤ 1800000 := by
  unfold cutL
  split
  · rename_i x hx
    have := vks_at h hx
    omega
  · omega
theorem aft_snoc (L : List SSkip) (t : Int) (M : List Int) (i : Int) : aft L t (M ++ [i]) = aft L t M - cutL L t i := by unfold aft; simp
theorem aft_bd {L : List SSkip} (h : vks L = true) (t : Int) (M : List Int) : t - 1800000 * M.length ≤ aft L t M ∧ aft L t M ≤ t := by
  have : ∀ (M : List Int) (r : Int), r - 1800000 * M.length ≤ M.foldl (fun r i => r - cutL L t i) r ∧ M.foldl (fun r i => r - cutL L t i) r ≤ r := by
    intro M
    induction M with
    | nil => intro r; simp
    | cons y M ih =>
      intro r
      have h1 := cutL_bd h t y
      have h2 := ih (r - cutL L t y)
      simp only [List.foldl_cons, List.length_cons]
      omega
  exact this M t
theorem aft_take {L : List SSkip} (h : vks L = true) (t : Int) (M : List Int) (k : Nat) (hk : k ≤ M.length) (hm : M.length ≤ 4194304) : t - 1800000 * 4194304 ≤ aft L t (M.take k) ∧ aft L t (M.take k) ≤ t := by
  have := aft_bd h t (M.take k)
  simp only [List.length_take] at this
  omega
theorem aft_next {L : List SSkip} {t : Int} {M : List Int} {k j : Nat} {x : SSkip} {r : Int} (hm : M[k]? = some (j : Int)) (hx : L[j]? = some x) (hr : aft L t (M.take k) = r) : aft L t (M.take (k + 1)) = r - max 0 (min (t - x.From) x.Length) := by
  rw [take_snoc hm, aft_snoc, hr]
  unfold cutL
  rw [Int.toNat_natCast, hx]

set_option maxRecDepth 20000 in
set_option maxHeartbeats 1000000 in
theorem areIndices_any (A : Option Addr) (m c : Nat) (M : List Int) (n : Nat) (w : World) (hr : Rd w A 1 iv M) (hn : M.length = m) (hb : m ≤ 4194304) (hb2 : n ≤ 4194304) :
    Calls Try.prog 75 #[.slice A m c, .int .i64 n] w fun e w' => e = .returned (.bool (rises M 0 (n - 1))) ∧ w = w' := by
  have Hn := Lib.hid hn
  have HR := Lib.hid hr
  clear hr hn
  go_enter Try.func75, Try.ntmps75
  go_wp2
  go_loop [9] (fun i => ∃ (k : Nat), k ≤ m ∧ i = .int .i64 k ∧ (List.range k).all (okAt (fun x => inB x 0 (n - 1)) ltI M) = true) (fun i => m - (intOf i).toNat)
  case atStart => exact ⟨0, Nat.zero_le _, rfl, rfl⟩
  case round =>
    obtain ⟨k, hk, rfl, ha⟩ := hrel
    have HA := Lib.hid ha
    clear ha
    by_cases hlt : k < m
    · obtain ⟨b, o, x, rfl, hx, hc⟩ := HR.out.int (k := k) (by rw [Hn.out]; exact hlt)
      have HX := Lib.hid hx
      clear hx
      have hlt2 : (k : Int) < (m : Int) := by omega
      have hk0 : 0 ≤ (k : Int) := by omega
      cases q1 : inB x 0 ((n : Int) - 1)
      · have H := Lib.hid (show rises M 0 (n - 1) = false from chk_bad HX.out q1)
        go_wp2_with (go_at_call 56; refine (within_any _ _ _ _).mono ?_; rintro e w' ⟨rfl, rfl⟩)
        go_ret
        exact ⟨ret_bool H.out.symm, rfl⟩
      have Q1 := Lib.hid q1
      cases k with
      | zero =>
        simp only [Nat.add_zero] at hc
        go_wp2_with (go_at_call 56; refine (within_any _ _ _ _).mono ?_; rintro e w' ⟨rfl, rfl⟩)
        go_round
        case rel => exact ⟨1, by omega, rfl, chk_step HA.out (okAt_first HX.out Q1.out)⟩
        case measure => simp [intOf]; omega
      | succ j =>
        obtain ⟨b', o', y, hA', hy, hd⟩ := HR.out.int (k := j) (by rw [Hn.out]; omega)
        obtain ⟨rfl, rfl⟩ : b = b' ∧ o = o' := by simpa using hA'
        have HY := Lib.hid hy
        clear hy hA'
        by_cases hl : y < x
        · have HL := Lib.hid (show ltI y x = true by simpa [ltI] using hl)
          go_wp2_with (go_at_call 56; refine (within_any _ _ _ _).mono ?_; rintro e w' ⟨rfl, rfl⟩)
          go_round
          case rel => exact ⟨j + 1 + 1, by omega, by go_num, chk_step HA.out (okAt_next HX.out HY.out Q1.out HL.out)⟩
          case measure => simp [intOf]; omega
        · have H := Lib.hid (show rises M 0 (n - 1) = false from chk_bad_rel HX.out HY.out (by simpa [ltI] using hl))
          go_wp2_with (go_at_call 56; refine (within_any _ _ _ _).mono ?_; rintro e w' ⟨rfl, rfl⟩)
          go_ret
          exact ⟨ret_bool H.out.symm, rfl⟩
    · have H := Lib.hid (show rises M 0 (n - 1) = true from chk_done HA.out (by rw [Hn.out]; omega))
      go_wp2
      go_ret
      exact ⟨ret_bool H.out.symm, rfl⟩

set_option maxRecDepth 20000 in
set_option maxHeartbeats 1000000 in
theorem l00Rises_any (A : Option Addr) (m c : Nat) (M : List Int) (lo hi : Int) (w : World) (hr : Rd w A 1 iv M) (hn : M.length = m) (hb : m ≤ 4194304) :
    Calls Try.prog 72 #[.slice A m c, .int .i64 lo, .int .i64 hi] w fun e w' => e = .returned (.bool (rises M lo hi)) ∧ G w w' := by
  have Hn := Lib.hid hn
  have HR := Lib.hid hr
  clear hr hn
  go_enter Try.func72, Try.ntmps72
  go_wp2
  go_loopw [7] (fun i wr => ∃ (k : Nat), k ≤ m ∧ i = .int .i64 k ∧ (List.range k).all (okAt (fun x => inB x lo hi) ltI M) = true ∧ G w wr) (fun i _ => m - (intOf i).toNat)
  case atStart => exact ⟨0, Nat.zero_le _, rfl, rfl, G.refl _⟩
  case round =>
    obtain ⟨k, hk, rfl, ha, hg⟩ := hrel
    have HA := Lib.hid ha
    have G0 := Lib.hid hg
    clear ha hg
    by_cases hlt : k < m
    · obtain ⟨b, o, x, rfl, hx, hc⟩ := (HR.out.G G0.out).int (k := k) (by rw [Hn.out]; exact hlt)
      have HX := Lib.hid hx
      clear hx
      have hlt2 : (k : Int) < (m : Int) := by omega
      have hk0 : 0 ≤ (k : Int) := by omega
      have gc := cellR hc
      cases q1 : inB x lo hi
      · have H := Lib.hid (show rises M lo hi = false from chk_bad HX.out q1)
        cases k with
        | zero =>
          simp only [Nat.add_zero] at gc
          go_wp2
          refine region_quiet_G (by kernel_rfl) (by kernel_rfl) ?_; (repeat (go_big_quiet_step (((go_at_call 78; exact quiet_G_same (l00In_any _ _ _ _)))))); refine wpQuiet_nil ?_
          intro w2 g2
          clear gc
          go_wp2
          go_ret
          exact ⟨ret_bool H.out.symm, G0.out.trans g2⟩
        | succ j =>
          go_wp2
          refine region_quiet_G (by kernel_rfl) (by kernel_rfl) ?_; (repeat (go_big_quiet_step (((go_at_call 78; exact quiet_G_same (l00In_any _ _ _ _)))))); refine wpQuiet_nil ?_
          intro w2 g2
          clear gc
          go_wp2
          go_ret
          exact ⟨ret_bool H.out.symm, G0.out.trans g2⟩
      have Q1 := Lib.hid q1
      cases k with
      | zero =>
        simp only [Nat.add_zero] at hc gc
        go_wp2
        refine region_quiet_G (by kernel_rfl) (by kernel_rfl) ?_; (repeat (go_big_quiet_step (((go_at_call 78; exact quiet_G_same (l00In_any _ _ _ _)))))); refine wpQuiet_nil ?_
        intro w2 g2
        have G1 := Lib.hid (G0.out.trans g2)
        clear g2 gc
        go_wp2
        go_roundw
        case rel => exact ⟨1, by omega, rfl, chk_step HA.out (okAt_first HX.out Q1.out), G1.out⟩
        case measure => simp [intOf]; omega
      | succ j =>
        obtain ⟨b', o', y, hA', hy, hd⟩ := (HR.out.G G0.out).int (k := j) (by rw [Hn.out]; omega)
        obtain ⟨rfl, rfl⟩ : b = b' ∧ o = o' := by simpa using hA'
        have HY := Lib.hid hy
        have gd := cellR hd
        clear hy hA'
        by_cases hl : y < x
        · have HL := Lib.hid (show ltI y x = true by simpa [ltI] using hl)
          have hl2 : decide (x ≤ y) = false := by simp; omega
          go_wp2
          refine region_quiet_G (by kernel_rfl) (by kernel_rfl) ?_; (repeat (go_big_quiet_step (((go_at_call 78; exact quiet_G_same (l00In_any _ _ _ _)))))); refine wpQuiet_nil ?_
          intro w2 g2
          have G1 := Lib.hid (G0.out.trans g2)
          clear g2 gc gd
          go_wp2
          go_roundw
          case rel => exact ⟨j + 1 + 1, by omega, by go_num, chk_step HA.out (okAt_next HX.out HY.out Q1.out HL.out), G1.out⟩
          case measure => simp [intOf]; omega
        · have H := Lib.hid (show rises M lo hi = false from chk_bad_rel HX.out HY.out (by simpa [ltI] using hl))
          have hl2 : decide (x ≤ y) = true := by simp; omega
          go_wp2
          refine region_quiet_G (by kernel_rfl) (by kernel_rfl) ?_; (repeat (go_big_quiet_step (((go_at_call 78; exact quiet_G_same (l00In_any _ _ _ _)))))); refine wpQuiet_nil ?_
          intro w2 g2
          clear gc gd
          go_wp2
          go_ret
          exact ⟨ret_bool H.out.symm, G0.out.trans g2⟩
    · have H := Lib.hid (show rises M lo hi = true from chk_done HA.out (by rw [Hn.out]; omega))
      go_wp2
      go_ret
      exact ⟨ret_bool H.out.symm, G0.out⟩

set_option maxRecDepth 20000 in
set_option maxHeartbeats 2000000 in
theorem iAfterSkips_any (A : Option Addr) (n c : Nat) (L : List SSkip) (B : Option Addr) (m d : Nat) (M : List Int) (t : Int) (w : World) (hr : Rd w A 3 cSkip L) (hn : L.length = n) (hb : n ≤ 4194304) (hr2 : Rd w B 1 iv M) (hn2 : M.length = m) (hb2 : m ≤ 4194304) :
    Calls Try.prog 37 #[.slice A n c, .slice B m d, .int .i64 t] w fun e w' => e = .returned (.tuple #[.int .i64 (afterR L M t).1, .int .i64 (afterR L M t).2]) ∧ G w w' := by
  have K := Lib.hid (ValidSkips_any A n c L w hr hn hb)
  have Hn := Lib.hid hn
  have HR := Lib.hid hr
  have Hn2 := Lib.hid hn2
  have HR2 := Lib.hid hr2
  clear hr hn hr2 hn2
  cases hv : vks L
  · have H := Lib.hid (show afterR L M t = (0, 1) by unfold afterR; rw [if_pos hv])
    rw [hv] at K
    clear hv
    go_enter Try.func37, Try.ntmps37
    go_wp2_with (go_at_call 22; refine K.out.mono ?_; rintro e w1 ⟨rfl, g1⟩)
    go_ret2
    exact ⟨ret_ii H.out, g1⟩
  rw [hv] at K
  have HV := Lib.hid hv
  have HF := Lib.hid (show afterR L M t = if rises M 0 (n - 1) = false then (0, 2) else if inB t 0 7200000 = false then (0, 2) else (aft L t M, 0) by unfold afterR; rw [if_neg (by rw [hv]; simp), Hn.out])
  clear hv
  have KI := Lib.hid (fun (w1 : World) (g : G w w1) => areIndices_any B m d M n w1 (HR2.out.G g) Hn2.out hb2 hb)
  cases hs : rises M 0 ((n : Int) - 1)
  · have H := Lib.hid (show afterR L M t = (0, 2) by rw [HF.out, if_pos hs])
    rw [hs] at KI
    clear hs
    go_enter Try.func37, Try.ntmps37
    go_wp2_with (first | (go_at_call 22; refine K.out.mono ?_; rintro e w1 ⟨rfl, g1⟩; have G1 := Lib.hid g1; clear g1) | (go_at_call 75; refine (KI.out _ G1.out).mono ?_; rintro e w2 ⟨rfl, rfl⟩))
    go_ret2
    exact ⟨ret_ii H.out, G1.out⟩
  rw [hs] at KI
  have HS := Lib.hid hs
  rw [HS.out, if_neg (by simp)] at HF
  clear hs
  cases ht : inB t 0 7200000
  · have H := Lib.hid (show afterR L M t = (0, 2) by rw [HF.out, if_pos ht])
    go_enter Try.func37, Try.ntmps37
    go_wp2_with (first | (go_at_call 22; refine K.out.mono ?_; rintro e w1 ⟨rfl, g1⟩; have G1 := Lib.hid g1; clear g1) | (go_at_call 75; refine (KI.out _ G1.out).mono ?_; rintro e w2 ⟨rfl, rfl⟩) | (go_at_call 56; refine (within_any _ _ _ _).mono ?_; rintro e w' ⟨rfl, rfl⟩))
    go_ret2
    exact ⟨ret_ii H.out, G1.out⟩
  have HE := Lib.hid (show afterR L M t = (aft L t M, 0) by rw [HF.out, if_neg (by rw [ht]; simp)])
  have htb := inB_iff.1 ht
  go_enter Try.func37, Try.ntmps37
  go_wp2_with (first | (go_at_call 22; refine K.out.mono ?_; rintro e w1 ⟨rfl, g1⟩; have G1 := Lib.hid g1; clear g1) | (go_at_call 75; refine (KI.out _ G1.out).mono ?_; rintro e w2 ⟨rfl, rfl⟩) | (go_at_call 56; refine (within_any _ _ _ _).mono ?_; rintro e w' ⟨rfl, rfl⟩))
  clear ht K KI HF
  go_loopw [27, 8] (fun i v wr => ∃ (k : Nat) (r : Int), k ≤ m ∧ i = .int .i64 k ∧ v = .int .i64 r ∧ aft L t (M.take k) = r ∧ G w wr) (fun i _ _ => m - (intOf i).toNat)
  case atStart => exact ⟨0, t, Nat.zero_le _, rfl, rfl, rfl, G1.out⟩
  case round =>
    obtain ⟨k, r, hk, rfl, rfl, ha, hg⟩ := hrel
    have HA := Lib.hid ha
    have G0 := Lib.hid hg
    have hrb := aft_take HV.out t M k (by rw [Hn2.out]; exact hk) (by rw [Hn2.out]; exact hb2)
    rw [ha] at hrb
    clear ha hg
    by_cases hlt : k < m
    · obtain ⟨b, o, x, rfl, hx, hc⟩ := (HR2.out.G G0.out).int (k := k) (by rw [Hn2.out]; exact hlt)
      have hxb := rises_at HS.out hx
      obtain ⟨j, rfl⟩ : ∃ j : Nat, x = j := ⟨x.toNat, by omega⟩
      have hj : j < n := by omega
      obtain ⟨b2, o2, y, rfl, hy, hd0, hd1, hd2⟩ := (HR.out.G G0.out).Skip (k := j) (by rw [Hn.out]; exact hj)
      have hyb := vks_at HV.out hy
      have HN := Lib.hid (aft_next hx hy HA.out)
      clear hx hy hxb
      have gd0 := cellR hd0
      have gd1 := cellR hd1
      have hlt2 : (k : Int) < (m : Int) := by omega
      have hk0 : 0 ≤ (k : Int) := by omega
      have hj2 : (j : Int) < (n : Int) := by omega
      have hj0 : 0 ≤ (j : Int) := by omega
      have e1 : IntKind.i64.wrap (t - y.From) = t - y.From := IntWalk.i64_in _ (by omega)
      have e2 : IntKind.i64.wrap (r - max 0 (min (t - y.From) y.Length)) = r - max 0 (min (t - y.From) y.Length) := IntWalk.i64_in _ (by omega)
      go_wp2
      refine region_quiet_G (by kernel_rfl) (by kernel_rfl) ?_; (repeat (go_big_quiet_step ((fail)))); refine wpQuiet_nil ?_
      intro w2 g2
      have G2 := Lib.hid (G0.out.trans g2)
      clear e1 e2 gd0 gd1 g2
      go_wp2
      go_roundw
      case rel => exact ⟨k + 1, _, by omega, by go_num, rfl, HN.out, G2.out⟩
      case measure => simp [intOf]; omega
    · have HN := Lib.hid (show aft L t M = r by rw [← HA.out, List.take_of_length_le (by rw [Hn2.out]; omega)])
      go_wp2
      go_ret2
      exact ⟨ret_ii (by rw [HE.out, HN.out]), G0.out⟩

set_option maxRecDepth 20000 in
set_option maxHeartbeats 2000000 in
theorem sAfterSkips_any (A : Option Addr) (n c : Nat) (L : List SSkip) (B : Option Addr) (m d : Nat) (M : List Int) (t : Int) (w : World) (hr : Rd w A 3 cSkip L) (hn : L.length = n) (hb : n ≤ 4194304) (hr2 : Rd w B 1 iv M) (hn2 : M.length = m) (hb2 : m ≤ 4194304) :
    Calls Try.prog 35 #[.slice A n c, .slice B m d, .int .i64 t] w fun e w' => e = .returned (.tuple #[.int .i64 (afterR L M t).1, .int .i64 (afterR L M t).2]) ∧ G w w' := by
  have K := Lib.hid (l18Skips_any A n c L w hr hn hb)
  have Hn := Lib.hid hn
  have HR := Lib.hid hr
  have Hn2 := Lib.hid hn2
  have HR2 := Lib.hid hr2
  clear hr hn hr2 hn2
  cases hv : vks L
  · have H := Lib.hid (show afterR L M t = (0, 1) by unfold afterR; rw [if_pos hv])
    rw [hv] at K
    clear hv
    go_enter Try.func35, Try.ntmps35
    go_wp2_with (go_at_call 58; refine K.out.mono ?_; rintro e w1 ⟨rfl, g1⟩)
    go_ret2
    exact ⟨ret_ii H.out, g1⟩
  rw [hv] at K
  have HV := Lib.hid hv
  have HF := Lib.hid (show afterR L M t = if rises M 0 (n - 1) = false then (0, 2) else if inB t 0 7200000 = false then (0, 2) else (aft L t M, 0) by unfold afterR; rw [if_neg (by rw [hv]; simp), Hn.out])
  clear hv
  have KI := Lib.hid (fun (w1 : World) (g : G w w1) => l00Rises_any B m d M 0 (n - 1) w1 (HR2.out.G g) Hn2.out hb2)
  cases hs : rises M 0 ((n : Int) - 1)
  · have H := Lib.hid (show afterR L M t = (0, 2) by rw [HF.out, if_pos hs])
    rw [hs] at KI
    clear hs
    go_enter Try.func35, Try.ntmps35
    go_wp2_with (first | (go_at_call 58; refine K.out.mono ?_; rintro e w1 ⟨rfl, g1⟩; have G1 := Lib.hid g1; clear g1) | (go_at_call 72; refine (KI.out _ G1.out).mono ?_; rintro e w2 ⟨rfl, g2⟩; have G2 := Lib.hid (G1.out.trans g2); clear g2))
    go_ret2
    exact ⟨ret_ii H.out, G2.out⟩
  rw [hs] at KI
  have HS := Lib.hid hs
  rw [HS.out, if_neg (by simp)] at HF
  clear hs
  cases ht : inB t 0 7200000
  · have H := Lib.hid (show afterR L M t = (0, 2) by rw [HF.out, if_pos ht])
    go_enter Try.func35, Try.ntmps35
    go_wp2_with (first | (go_at_call 58; refine K.out.mono ?_; rintro e w1 ⟨rfl, g1⟩; have G1 := Lib.hid g1; clear g1) | (go_at_call 72; refine (KI.out _ G1.out).mono ?_; rintro e w2 ⟨rfl, g2⟩; have G2 := Lib.hid (G1.out.trans g2); clear g2) | (go_at_call 61; refine (l14Time_any _ _).mono ?_; rintro e w' ⟨rfl, rfl⟩))
    go_ret2
    exact ⟨ret_ii H.out, G2.out⟩
  have HE := Lib.hid (show afterR L M t = (aft L t M, 0) by rw [HF.out, if_neg (by rw [ht]; simp)])
  have htb := inB_iff.1 ht
  go_enter Try.func35, Try.ntmps35
  go_wp2_with (first | (go_at_call 58; refine K.out.mono ?_; rintro e w1 ⟨rfl, g1⟩; have G1 := Lib.hid g1; clear g1) | (go_at_call 72; refine (KI.out _ G1.out).mono ?_; rintro e w2 ⟨rfl, g2⟩; have G2 := Lib.hid (G1.out.trans g2); clear g2) | (go_at_call 61; refine (l14Time_any _ _).mono ?_; rintro e w' ⟨rfl, rfl⟩))
  clear ht K KI HF
  go_loopw [9, 8] (fun i v wr => ∃ (k : Nat) (r : Int), k ≤ m ∧ i = .int .i64 k ∧ v = .int .i64 r ∧ aft L t (M.take k) = r ∧ G w wr) (fun i _ _ => m - (intOf i).toNat)
  case atStart => exact ⟨0, t, Nat.zero_le _, rfl, rfl, rfl, G2.out⟩
  case round =>
    obtain ⟨k, r, hk, rfl, rfl, ha, hg⟩ := hrel
    have HA := Lib.hid ha
    have G0 := Lib.hid hg
    have hrb := aft_take HV.out t M k (by rw [Hn2.out]; exact hk) (by rw [Hn2.out]; exact hb2)
    rw [ha] at hrb
    clear ha hg
    by_cases hlt : k < m
    · obtain ⟨b, o, x, rfl, hx, hc⟩ := (HR2.out.G G0.out).int (k := k) (by rw [Hn2.out]; exact hlt)
      have hxb := rises_at HS.out hx
      obtain ⟨j, rfl⟩ : ∃ j : Nat, x = j := ⟨x.toNat, by omega⟩
      have hj : j < n := by omega
      obtain ⟨b2, o2, y, rfl, hy, hd0, hd1, hd2⟩ := (HR.out.G G0.out).Skip (k := j) (by rw [Hn.out]; exact hj)
      have hyb := vks_at HV.out hy
      have HN := Lib.hid (show aft L t (M.take (k + 1)) = r - max 0 (min y.Length (t - y.From)) by rw [aft_next hx hy HA.out, Int.min_comm])
      clear hx hy hxb
      have hlt2 : (k : Int) < (m : Int) := by omega
      have hk0 : 0 ≤ (k : Int) := by omega
      have hj2 : (j : Int) < (n : Int) := by omega
      have hj0 : 0 ≤ (j : Int) := by omega
      obtain ⟨q, HQ⟩ : ∃ q, Hid (max 0 (min y.Length (t - y.From)) = q) := ⟨_, rfl⟩
      have hqb : 0 ≤ q ∧ q ≤ 1800000 := by rw [← HQ.out]; omega
      rw [HQ.out] at HN
      have KM := Lib.hid (fun W => l00Max_any 0 (min y.Length (t - y.From)) W)
      rw [HQ.out] at KM
      go_wp2_with (first | (go_at_call 74; refine (l00Min_any _ _ _).mono ?_; rintro e w' ⟨rfl, rfl⟩) | (go_at_call 73; refine (KM.out _).mono ?_; rintro e w3 ⟨rfl, rfl⟩))
      go_roundw
      case rel => exact ⟨k + 1, _, by omega, by go_num, rfl, HN.out, G0.out.alloc _⟩
      case measure => simp [intOf]; omega
    · have HN := Lib.hid (show aft L t M = r by rw [← HA.out, List.take_of_length_le (by rw [Hn2.out]; omega)])
      go_wp2
      go_ret2
      exact ⟨ret_ii (by rw [HE.out, HN.out]), G0.out⟩
end Go.Proofs.Ytfdghdnnjhilgaa
