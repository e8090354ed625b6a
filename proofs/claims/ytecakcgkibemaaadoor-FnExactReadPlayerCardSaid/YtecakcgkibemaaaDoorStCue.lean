/-
  Walks: the law's own functions on Cue and on slices of Cue: copied, compared, measured, marked, held.
-/
import Derived.Test.YtecakcgkibemaaaDoorText
import Derived.Deep.WholeRow
import Derived.Lib.SmallJoins
namespace Go.Proofs.YtecakcgkibemaaaDoor
open Go.RowKit

structure SCue where
  Id : ByteArray
  Time : Int
  Length : Int
  Target : ByteArray
  Action : Int
  Value : Int

def cCue (x : SCue) : List Value := [.string x.Id, .int .i64 x.Time, .int .i64 x.Length, .string x.Target, .int .i64 x.Action, .int .i64 x.Value]
theorem cCue_len (x : SCue) : (cCue x).length = 6 := rfl
/-- What is known of an element that came in. -/
def WfCue (x : SCue) : Prop := x.Id.size ≤ maxLen ∧ x.Target.size ≤ maxLen
/-- How many letters an element has. -/
def szCue (x : SCue) : Int := (x.Id.size : Int) + (x.Target.size : Int)
theorem szCue_nonneg (x : SCue) : 0 ≤ szCue x := by unfold szCue; omega
/-- The head of a slice and an element's cells. -/
theorem Rd.Cue {w : World} {A : Option Addr} {L : List SCue} (h : Rd w A 6 cCue L) {k : Nat} (hk : k < L.length) :
    ∃ b o x, A = some ⟨b, o, none⟩ ∧ L[k]? = some x ∧ w.cell? ⟨b, o + k * 6, none⟩ = some (.string x.Id) ∧ w.cell? ⟨b, o + k * 6 + 1, none⟩ = some (.int .i64 x.Time) ∧ w.cell? ⟨b, o + k * 6 + 2, none⟩ = some (.int .i64 x.Length) ∧ w.cell? ⟨b, o + k * 6 + 3, none⟩ = some (.string x.Target) ∧ w.cell? ⟨b, o + k * 6 + 4, none⟩ = some (.int .i64 x.Action) ∧ w.cell? ⟨b, o + k * 6 + 5, none⟩ = some (.int .i64 x.Value) := by
  obtain ⟨b, o, x, e, hx, hc⟩ := h.at_ hk
  refine ⟨b, o, x, e, hx, ?_, ?_, ?_, ?_, ?_, ?_⟩
  · have := hc 0 _ rfl; simpa [← Nat.add_assoc] using this
  · have := hc 1 _ rfl; simpa [← Nat.add_assoc] using this
  · have := hc 2 _ rfl; simpa [← Nat.add_assoc] using this
  · have := hc 3 _ rfl; simpa [← Nat.add_assoc] using this
  · have := hc 4 _ rfl; simpa [← Nat.add_assoc] using this
  · have := hc 5 _ rfl; simpa [← Nat.add_assoc] using this

theorem infoCue : (Tryd.prog.info? 45).map (fun i => (i.zero, i.size, i.bytes)) = some (some (.agg #[.string ⟨#[]⟩, .int .i64 0, .int .i64 0, .string ⟨#[]⟩, .int .i64 0, .int .i64 0]), 6, 64) := by kernel_rfl

set_option maxHeartbeats 1000000 in
theorem toCue_any (x : SCue) (w : World) :
    Calls Tryd.prog 37 #[.agg #[.string x.Id, .int .i64 x.Time, .int .i64 x.Length, .string x.Target, .int .i64 x.Action, .int .i64 x.Value]] w fun e w' => e = .returned (.agg #[.string x.Id, .int .i64 x.Time, .int .i64 x.Length, .string x.Target, .int .i64 x.Action, .int .i64 x.Value]) ∧ G w w' := by
  go_enter Tryd.func37, Tryd.ntmps37
  go_wp2
  exact bodyPost_ret (v := .agg #[.string x.Id, .int .i64 x.Time, .int .i64 x.Length, .string x.Target, .int .i64 x.Action, .int .i64 x.Value]) (by simp [results, Tryd.results37, go_sem]) rfl ⟨rfl, (((G.refl _).alloc _).alloc _).alloc _⟩

theorem oneCue (x : SCue) : (#[.string x.Id, .int .i64 x.Time, .int .i64 x.Length, .string x.Target, .int .i64 x.Action, .int .i64 x.Value] : Array Value).all (·.oneCell') = true := all_oneCell_toArray (cs := cCue x) (by intro v hv; simp only [cCue, List.mem_cons, List.not_mem_nil, or_false] at hv; rcases hv with rfl | rfl | rfl | rfl | rfl | rfl <;> rfl)
theorem flatCue_succ {L : List SCue} {k : Nat} {x : SCue} (h : L[k]? = some x) : (L.take (k + 1)).flatMap cCue = (L.take k).flatMap cCue ++ cCue x := by
  rw [take_snoc h, List.flatMap_append]; simp

set_option maxHeartbeats 1000000 in
theorem toCueS_any (A : Option Addr) (n c : Nat) (L : List SCue) (w : World) (hr : Rd w A 6 cCue L) (hn : L.length = n) (hb : n ≤ 1048576) :
    Calls Tryd.prog 17 #[.slice A n c] w (Made w 45 6 n (L.flatMap cCue)) := by
  obtain ⟨i0, hi, hz0, hz1, hz2⟩ := info_parts infoCue
  have Hn := Lib.hid hn
  have HR := Lib.hid hr
  clear hn hr
  go_enter Tryd.func17, Tryd.ntmps17
  go_wp2_with (refine wpList_make_full _ rfl _ _ 27 rfl w.heap.size 45 i0 (.agg #[.string ⟨#[]⟩, .int .i64 0, .int .i64 0, .string ⟨#[]⟩, .int .i64 0, .int .i64 0]) 6 Tryd.underlying27 hi hz0 hz1 .i64 .i64 _ _ n rfl rfl rfl rfl (by rw [hz2]; omega) (by unfold maxLen; omega) (Nat.le_refl _) ?_; intro w1 hown hgrow)
  have HO := Lib.hid hown
  have HG := Lib.hid ((G.refl w).grown hgrow (by simp))
  clear hown hgrow hi hz0 hz1 hz2
  go_loopw [4] (fun i wr => ∃ (k : Nat) (xs : List Value), k ≤ n ∧ i = .int .i64 k ∧ wr.ownsRow w.heap.size 45 6 (.slice (some ⟨w.heap.size, 0, none⟩) n n) n xs ∧ xs.take (k * 6) = (L.take k).flatMap cCue ∧ G w wr) (fun i _ => n - (intOf i).toNat)
  case atStart => exact ⟨0, _, Nat.zero_le _, rfl, HO.out, by simp, HG.out⟩
  case round =>
    obtain ⟨k, xs, hk, rfl, ho, ht, hg⟩ := hrel
    by_cases hlt : k < n
    · obtain ⟨b, o, x, rfl, hx, hc0, hc1, hc2, hc3, hc4, hc5⟩ := (HR.out.G hg).Cue (k := k) (by rw [Hn.out]; exact hlt)
      have HO2 := Lib.hid ho
      have HX := Lib.hid hx
      have HT := Lib.hid ht
      have HG2 := Lib.hid hg
      clear hx ht hg ho
      go_wp2_with (first | (go_at_call 37; refine (toCue_any _ _).mono ?_; rintro e w2 ⟨rfl, hg2⟩; have HO3 := Lib.hid (own_G HO2.out hg2); have HG3 := Lib.hid (HG2.out.trans hg2); clear hg2) | (refine wpList_store_mid rfl 45 (.tmp 21) (.tmp 20) rfl w.heap.size (k * 6) #[.string x.Id, .int .i64 x.Time, .int .i64 x.Length, .string x.Target, .int .i64 x.Action, .int .i64 x.Value] rfl rfl (own_there (o := k * 6) (m := 6) HO3.out (by omega)) (by kernel_rfl) (oneCue x) ?_; have HO4 := HO3; clear HO3))
      have HS := Lib.hid (own_setCells (cCue x) (k * 6) HO4.out (by rw [cCue_len]; omega))
      go_roundw
      case rel => exact ⟨k + 1, _, by omega, by go_num, HS.out.1, by rw [take_put HO4.out.1 hlt HT.out (cCue_len x), flatCue_succ HX.out], HG3.out.setCells (Nat.le_refl _) _⟩
      case measure => simp [intOf]; omega
    · have hkn : k = n := by omega
      have HT := Lib.hid ht
      have HG2 := Lib.hid hg
      have HO2 := Lib.hid ho
      clear ht hg ho
      go_wp2
      go_ret
      refine ⟨w.heap.size, rfl, Nat.le_refl _, (HO2.out.lt _ rfl).2, HG2.out, ?_⟩
      have h1 := HO2.out
      have h2 := HT.out
      rw [hkn, List.take_of_length_le (by have := h1.1; omega), List.take_of_length_le (by have := Hn.out; omega)] at h2
      rw [← h2]
      exact h1

set_option maxHeartbeats 1000000 in
theorem eqCue_same (x : SCue) (w : World) :
    Calls Tryd.prog 42 #[.agg #[.string x.Id, .int .i64 x.Time, .int .i64 x.Length, .string x.Target, .int .i64 x.Action, .int .i64 x.Value], .agg #[.string x.Id, .int .i64 x.Time, .int .i64 x.Length, .string x.Target, .int .i64 x.Action, .int .i64 x.Value]] w fun e w' => e = .returned (.bool true) ∧ G w w' := by
  go_enter Tryd.func42, Tryd.ntmps42
  go_wp2
  go_ret
  exact ⟨rfl, ((G.refl _).alloc _).alloc _⟩

set_option maxHeartbeats 1000000 in
theorem eqCueS_same (A B : Option Addr) (n c d : Nat) (L : List SCue) (w : World) (h1 : Rd w A 6 cCue L) (h2 : Rd w B 6 cCue L) (hn : L.length = n) (hb : n ≤ 4194304) :
    Calls Tryd.prog 21 #[.slice A n c, .slice B n d] w fun e w' => e = .returned (.bool true) ∧ G w w' := by
  have Hn := Lib.hid hn
  have H1 := Lib.hid h1
  have H2 := Lib.hid h2
  clear hn h1 h2
  go_enter Tryd.func21, Tryd.ntmps21
  go_wp2
  go_loopw [5] (fun i wr => ∃ (k : Nat), k ≤ n ∧ i = .int .i64 k ∧ G w wr) (fun i _ => n - (intOf i).toNat)
  case atStart => exact ⟨0, Nat.zero_le _, rfl, G.refl _⟩
  case round =>
    obtain ⟨k, hk, rfl, hg⟩ := hrel
    have HG := Lib.hid hg
    clear hg
    by_cases hlt : k < n
    · obtain ⟨b, o, x, rfl, hx, hc0, hc1, hc2, hc3, hc4, hc5⟩ := (H1.out.G HG.out).Cue (k := k) (by rw [Hn.out]; exact hlt)
      obtain ⟨b2, o2, x2, rfl, hx2, hd0, hd1, hd2, hd3, hd4, hd5⟩ := (H2.out.G HG.out).Cue (k := k) (by rw [Hn.out]; exact hlt)
      obtain rfl : x = x2 := Option.some.inj (hx.symm.trans hx2)
      clear hx hx2
      have gc0 := cellR hc0; have gd0 := cellR hd0; have gc1 := cellR hc1; have gd1 := cellR hd1; have gc2 := cellR hc2; have gd2 := cellR hd2; have gc3 := cellR hc3; have gd3 := cellR hd3; have gc4 := cellR hc4; have gd4 := cellR hd4; have gc5 := cellR hc5; have gd5 := cellR hd5
      clear hc0 hd0 hc1 hd1 hc2 hd2 hc3 hd3 hc4 hd4 hc5 hd5
      have hlt2 : (k : Int) < (n : Int) := by omega
      have hk0 : 0 ≤ (k : Int) := by omega
      go_wp2
      refine region_quiet_G (by kernel_rfl) (by kernel_rfl) ?_; (repeat (go_big_quiet_step (((go_at_call 42; exact quiet_G (eqCue_same _ _)))))); refine wpQuiet_nil ?_
      intro w2 hg2
      have HG2 := Lib.hid (HG.out.trans hg2)
      clear hg2 gc0 gd0 gc1 gd1 gc2 gd2 gc3 gd3 gc4 gd4 gc5 gd5
      go_wp2
      go_roundw
      case rel => exact ⟨k + 1, by omega, by go_num, HG2.out⟩
      case measure => simp [intOf]; omega
    · go_wp2
      go_ret
      exact ⟨rfl, HG.out⟩

set_option maxHeartbeats 1000000 in
theorem szCue_any (x : SCue) (left : Int) (w : World) (hw : WfCue x) (h0 : 0 ≤ left) (h1 : left ≤ 4194304) :
    Calls Tryd.prog 31 #[.agg #[.string x.Id, .int .i64 x.Time, .int .i64 x.Length, .string x.Target, .int .i64 x.Action, .int .i64 x.Value], .int .i64 left] w fun e w' => e = .returned (.int .i64 (szR (left - szCue x))) ∧ G w w' := by
  unfold WfCue maxLen at hw
  by_cases q0 : left - (x.Id.size : Int) < 0
  · have H := Lib.hid (show szR (left - szCue x) = -1 from szR_neg (by unfold szCue; omega))
    go_enter Tryd.func31, Tryd.ntmps31
    go_wp2
    go_ret
    exact ⟨ret_int H.out.symm, (G.refl _).alloc _⟩
  by_cases q1 : left - (x.Id.size : Int) - (x.Target.size : Int) < 0
  · have H := Lib.hid (show szR (left - szCue x) = -1 from szR_neg (by unfold szCue; omega))
    go_enter Tryd.func31, Tryd.ntmps31
    go_wp2
    go_ret
    exact ⟨ret_int H.out.symm, (G.refl _).alloc _⟩
  have H := Lib.hid (show szR (left - szCue x) = left - (x.Id.size : Int) - (x.Target.size : Int) by rw [szR_pos (by unfold szCue; omega)]; unfold szCue; omega)
  go_enter Tryd.func31, Tryd.ntmps31
  go_wp2
  go_ret
  exact ⟨ret_int H.out.symm, (G.refl _).alloc _⟩

set_option maxHeartbeats 1000000 in
theorem szCueS_any (A : Option Addr) (n c : Nat) (L : List SCue) (left : Int) (w : World) (hr : Rd w A 6 cCue L) (hn : L.length = n) (hwf : ∀ x ∈ L, WfCue x) (hm : n ≤ maxLen) (h0 : 0 ≤ left) (h1 : left ≤ 4194304) :
    Calls Tryd.prog 14 #[.slice A n c, .int .i64 left] w fun e w' => e = .returned (.int .i64 (szR (left - n - tot szCue L))) ∧ G w w' := by
  unfold maxLen at hm
  have Hn := Lib.hid hn
  have HR := Lib.hid hr
  have HW := Lib.hid hwf
  have t0 := tot_nonneg szCue szCue_nonneg L
  clear hn hr hwf
  by_cases q : left - n < 0
  · have H := Lib.hid (show szR (left - n - tot szCue L) = -1 from szR_neg (by omega))
    go_enter Tryd.func14, Tryd.ntmps14
    go_wp2
    go_ret
    exact ⟨ret_int H.out.symm, G.refl _⟩
  go_enter Tryd.func14, Tryd.ntmps14
  go_wp2
  go_loopw [5, 1] (fun i v wr => ∃ (k : Nat) (y : Int), k ≤ n ∧ i = .int .i64 k ∧ v = .int .i64 y ∧ 0 ≤ y ∧ y ≤ left ∧ y = left - n - tot szCue (L.take k) ∧ G w wr) (fun i _ _ => n - (intOf i).toNat)
  case atStart => exact ⟨0, _, Nat.zero_le _, rfl, rfl, by omega, by omega, by simp [tot], G.refl _⟩
  case round =>
    obtain ⟨k, y, hk, rfl, rfl, hy0, hy1, hy, hg⟩ := hrel
    have HY := Lib.hid hy
    have HG := Lib.hid hg
    clear hy hg
    by_cases hlt : k < n
    · obtain ⟨b, o, x, rfl, hx, hc0, hc1, hc2, hc3, hc4, hc5⟩ := (HR.out.G HG.out).Cue (k := k) (by rw [Hn.out]; exact hlt)
      have hwx := Lib.hid (HW.out x (List.mem_of_getElem? hx))
      have HX := Lib.hid (tot_snoc szCue hx)
      have HTk := Lib.hid (tot_take szCue szCue_nonneg L (k + 1))
      clear hx
      have hs0 := szCue_nonneg x
      by_cases hy2 : y - szCue x < 0
      · have H := Lib.hid (show szR (left - n - tot szCue L) = -1 from szR_neg (by have := HX.out; have := HTk.out; have := HY.out; omega))
        have HZ := Lib.hid (szR_neg hy2)
        go_wp2_with (go_at_call 31; refine (szCue_any x y _ hwx.out (by omega) (by omega)).mono ?_; rintro e w2 ⟨rfl, hg2⟩; rw [HZ.out])
        go_ret
        exact ⟨ret_int H.out.symm, HG.out.trans (by assumption)⟩
      · have HZ := Lib.hid (szR_pos (y := y - szCue x) (by omega))
        go_wp2_with (go_at_call 31; refine (szCue_any x y _ hwx.out (by omega) (by omega)).mono ?_; rintro e w2 ⟨rfl, hg2⟩; rw [HZ.out])
        go_roundw
        case rel => exact ⟨k + 1, _, by omega, by go_num, rfl, by omega, by omega, by have := HX.out; have := HY.out; omega, HG.out.trans (by assumption)⟩
        case measure => simp [intOf]; omega
    · have H := Lib.hid (show szR (left - n - tot szCue L) = y by
        have hy := HY.out
        rw [List.take_of_length_le (by rw [Hn.out]; omega)] at hy
        rw [← hy]
        exact szR_pos hy0)
      go_wp2
      go_ret
      exact ⟨ret_int H.out.symm, HG.out⟩

/-- The marked element that begins at the number q. -/
def mkCue (q : Int) : SCue := ⟨mt (q), q + 1, q + 1 + 1, mt (q + 1 + 1 + 1), q + 1 + 1 + 1 + 1, q + 1 + 1 + 1 + 1 + 1⟩
def mksCue (q : Int) (n : Nat) : List SCue := (List.range n).map fun i => mkCue (q + 6 * (i : Nat))
theorem mksCue_at (q : Int) (n i : Nat) (h : i < n) : (mksCue q n)[i]? = some (mkCue (q + 6 * i)) := by unfold mksCue; simp [h]
theorem mksCue_len (q : Int) (n : Nat) : (mksCue q n).length = n := by unfold mksCue; simp
theorem mksCue_succ (q : Int) (n : Nat) : (mksCue q (n + 1)).flatMap cCue = (mksCue q n).flatMap cCue ++ cCue (mkCue (q + 6 * n)) := by unfold mksCue; simp [List.range_succ, List.flatMap_append]

set_option maxHeartbeats 2000000 in
theorem markCueS_any (base : Nat) (A : Option Addr) (n c : Nat) (xs : List Value) (k0 : Int) (w : World) (ho : w.ownsRow base 45 6 (.slice A n c) n xs) (hk0 : 0 ≤ k0) (hk1 : k0 ≤ 1000000) (hb : n ≤ 1048576) :
    Calls Tryd.prog 29 #[.slice A n c, .int .i64 k0] w (Marked w base 45 6 A n c (k0 + 6 * n) ((mksCue k0 n).flatMap cCue)) := by
  have HO := Lib.hid ho
  clear ho
  go_enter Tryd.func29, Tryd.ntmps29
  go_wp2
  go_loopw [5, 1] (fun i v wr => ∃ (k : Nat) (q : Int) (xs : List Value), k ≤ n ∧ i = .int .i64 k ∧ v = .int .i64 q ∧ q = k0 + 6 * k ∧ wr.ownsRow base 45 6 (.slice A n c) n xs ∧ xs.take (k * 6) = (mksCue k0 k).flatMap cCue ∧ Gx (A.map (·.block)) w wr) (fun i _ _ => n - (intOf i).toNat)
  case atStart => exact ⟨0, k0, _, Nat.zero_le _, rfl, rfl, by simp, HO.out, by simp [mksCue], Gx.of_G (G.refl _) _⟩
  case round =>
    obtain ⟨k, q, xs, hk, rfl, rfl, hq, ho, ht, hg⟩ := hrel
    have hq0 : 0 ≤ q := by omega
    have hq1 : q ≤ 100000000 := by omega
    have HQ := Lib.hid hq
    clear hq
    by_cases hlt : k < n
    · rcases ho.2 with ⟨_, h0⟩ | ⟨g, cap, cur, hv, _⟩
      · omega
      · simp only [Value.slice.injEq] at hv
        obtain ⟨rfl, _, rfl⟩ := hv
        have O0 := Lib.hid ho
        have G0 := Lib.hid hg
        have HT := Lib.hid ht
        clear ho hg ht
        go_wp2_with fail
        refine (markText_any _ (by omega) (by omega) _).mono ?_
        rintro e w1 ⟨rfl, hg1⟩
        have O1 := Lib.hid (own_G O0.out hg1)
        have G1 := Lib.hid (Gx.trans G0.out (Gx.of_G hg1 (some g)))
        clear hg1
        obtain ⟨u0, hu0⟩ := Option.isSome_iff_exists.1 (own_there O1.out (o := k * 6) (m := 6) (by omega) 0 (by omega)).1
        have hf0 := own_frozen_of O1.out (k * 6)
        obtain ⟨u1, hu1⟩ := Option.isSome_iff_exists.1 (own_there O1.out (o := k * 6) (m := 6) (by omega) 1 (by omega)).1
        have hf1 := own_frozen_of O1.out (k * 6 + 1)
        obtain ⟨u2, hu2⟩ := Option.isSome_iff_exists.1 (own_there O1.out (o := k * 6) (m := 6) (by omega) 2 (by omega)).1
        have hf2 := own_frozen_of O1.out (k * 6 + 2)
        simp only [Nat.add_zero] at hu0
        go_wp2_with fail
        refine (markText_any _ (by omega) (by omega) _).mono ?_
        rintro e w2 ⟨rfl, hg2⟩
        have S1 := Lib.hid (O1.out.stored (k * 6) (.string (mt (q))))
        have S1_1 := Lib.hid (S1.out.1.stored (k * 6 + 1) (.int .i64 (q + 1)))
        have Y1_1 := Lib.hid (Gx.trans S1.out.2 S1_1.out.2)
        have S1_2 := Lib.hid (S1_1.out.1.stored (k * 6 + 2) (.int .i64 (q + 1 + 1)))
        have Y1_2 := Lib.hid (Gx.trans Y1_1.out S1_2.out.2)
        have O2 := Lib.hid (own_G S1_2.out.1 hg2)
        have G2 := Lib.hid (Gx.trans (Gx.trans G1.out Y1_2.out) (Gx.of_G hg2 (some g)))
        clear hg2
        obtain ⟨u3, hu3⟩ := Option.isSome_iff_exists.1 (own_there O2.out (o := k * 6) (m := 6) (by omega) 3 (by omega)).1
        have hf3 := own_frozen_of O2.out (k * 6 + 3)
        obtain ⟨u4, hu4⟩ := Option.isSome_iff_exists.1 (own_there O2.out (o := k * 6) (m := 6) (by omega) 4 (by omega)).1
        have hf4 := own_frozen_of O2.out (k * 6 + 4)
        obtain ⟨u5, hu5⟩ := Option.isSome_iff_exists.1 (own_there O2.out (o := k * 6) (m := 6) (by omega) 5 (by omega)).1
        have hf5 := own_frozen_of O2.out (k * 6 + 5)
        go_wp2
        have Z3 := Lib.hid (O2.out.stored (k * 6 + 3) (.string (mt (q + 1 + 1 + 1))))
        have Y3 := Lib.hid Z3.out.2
        have Z4 := Lib.hid (Z3.out.1.stored (k * 6 + 4) (.int .i64 (q + 1 + 1 + 1 + 1)))
        have Y4 := Lib.hid (Gx.trans Y3.out Z4.out.2)
        have Z5 := Lib.hid (Z4.out.1.stored (k * 6 + 5) (.int .i64 (q + 1 + 1 + 1 + 1 + 1)))
        have Y5 := Lib.hid (Gx.trans Y4.out Z5.out.2)
        go_roundw
        case rel =>
          refine ⟨k + 1, _, _, by omega, by go_num, rfl, by have := HQ.out; omega, Z5.out.1, ?_, Gx.trans G2.out Y5.out⟩
          have e := take_setL (cs := cCue (mkCue q)) O0.out.1 hlt HT.out (cCue_len _)
          rw [mksCue_succ, ← HQ.out]
          exact e
        case measure => simp [intOf]; omega
    · have hkn : k = n := by omega
      have HT := Lib.hid ht
      have HG2 := Lib.hid hg
      have HO2 := Lib.hid ho
      clear ht hg ho
      go_wp2
      go_ret
      have h1 := HO2.out
      have h2 := HT.out
      rw [hkn, List.take_of_length_le (by have := h1.1; omega)] at h2
      exact ⟨ret_int (by rw [HQ.out, hkn]), HG2.out, by rw [← h2]; exact h1⟩

set_option maxHeartbeats 2000000 in
theorem heldCueS_any (A : Option Addr) (n c : Nat) (k0 : Int) (w : World) (hr : Rd w A 6 cCue (mksCue k0 n)) (hk0 : 0 ≤ k0) (hk1 : k0 ≤ 1000000) (hb : n ≤ 1048576) :
    Calls Tryd.prog 30 #[.slice A n c, .int .i64 k0] w fun e w' => e = .returned (.int .i64 (k0 + 6 * n)) ∧ G w w' := by
  have HR := Lib.hid hr
  clear hr
  go_enter Tryd.func30, Tryd.ntmps30
  go_wp2
  go_loopw [5, 1] (fun i v wr => ∃ (k : Nat) (q : Int), k ≤ n ∧ i = .int .i64 k ∧ v = .int .i64 q ∧ q = k0 + 6 * k ∧ G w wr) (fun i _ _ => n - (intOf i).toNat)
  case atStart => exact ⟨0, k0, Nat.zero_le _, rfl, rfl, by simp, G.refl _⟩
  case round =>
    obtain ⟨k, q, hk, rfl, rfl, hq, hg⟩ := hrel
    have hq0 : 0 ≤ q := by omega
    have hq1 : q ≤ 100000000 := by omega
    have HQ := Lib.hid hq
    have G0 := Lib.hid hg
    clear hq hg
    by_cases hlt : k < n
    · obtain ⟨b, o, x, rfl, hx, hc0, hc1, hc2, hc3, hc4, hc5⟩ := (HR.out.G G0.out).Cue (k := k) (by rw [mksCue_len]; exact hlt)
      have hxq : x = mkCue q := by rw [mksCue_at k0 n k hlt, ← HQ.out] at hx; exact (Option.some.inj hx).symm
      rw [show x.Id = mt (q) by rw [hxq]; rfl] at hc0; rw [show x.Time = q + 1 by rw [hxq]; rfl] at hc1; rw [show x.Length = q + 1 + 1 by rw [hxq]; rfl] at hc2; rw [show x.Target = mt (q + 1 + 1 + 1) by rw [hxq]; rfl] at hc3; rw [show x.Action = q + 1 + 1 + 1 + 1 by rw [hxq]; rfl] at hc4; rw [show x.Value = q + 1 + 1 + 1 + 1 + 1 by rw [hxq]; rfl] at hc5
      clear hx hxq
      have hlt2 : (k : Int) < (n : Int) := by omega
      have hk2 : 0 ≤ (k : Int) := by omega
      have gc0 := cellR hc0
      go_wp2
      refine region_quiet_G (by kernel_rfl) (by kernel_rfl) ?_; (repeat (go_big_quiet_step (((go_at_call 47; exact quiet_G (markText_any _ (by omega) (by omega) _)))))); refine wpQuiet_nil ?_
      intro w1 hg1
      have G1 := Lib.hid (G0.out.trans hg1)
      replace hc1 := hg1.cell hc1; replace hc2 := hg1.cell hc2; replace hc3 := hg1.cell hc3; replace hc4 := hg1.cell hc4; replace hc5 := hg1.cell hc5
      clear hg1 gc0 hc0
      have gc3 := cellR hc3
      go_wp2
      refine region_quiet_G (by kernel_rfl) (by kernel_rfl) ?_; (repeat (go_big_quiet_step (((go_at_call 47; exact quiet_G (markText_any _ (by omega) (by omega) _)))))); refine wpQuiet_nil ?_
      intro w2 hg2
      have G2 := Lib.hid (G1.out.trans hg2)
      replace hc4 := hg2.cell hc4; replace hc5 := hg2.cell hc5
      clear hg2 gc3 hc3
      go_wp2
      go_roundw
      case rel => exact ⟨k + 1, _, by omega, by go_num, rfl, by have := HQ.out; omega, G2.out⟩
      case measure => simp [intOf]; omega
    · have hkn : k = n := by omega
      go_wp2
      go_ret
      exact ⟨ret_int (by rw [HQ.out, hkn]), G0.out⟩
end Go.Proofs.YtecakcgkibemaaaDoor
