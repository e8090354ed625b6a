/-
  Walks: the law's own functions on Channel and on slices of Channel: copied, compared, measured, marked, held.
-/
import Derived.Test.YtnnhffehboknnaaDoorText
import Derived.Deep.WholeRow
import Derived.Lib.SmallJoins
namespace Go.Proofs.YtnnhffehboknnaaDoor
open Go.RowKit

structure SChannel where
  Name : ByteArray
  Gain : Int
  Pan : Int
  Muted : Bool

def cChannel (x : SChannel) : List Value := [.string x.Name, .int .i64 x.Gain, .int .i64 x.Pan, .bool x.Muted]
theorem cChannel_len (x : SChannel) : (cChannel x).length = 4 := rfl
/-- What is known of an element that came in. -/
def WfChannel (x : SChannel) : Prop := x.Name.size ≤ maxLen
/-- How many letters an element has. -/
def szChannel (x : SChannel) : Int := (x.Name.size : Int)
theorem szChannel_nonneg (x : SChannel) : 0 ≤ szChannel x := by unfold szChannel; omega
/-- The head of a slice and an element's cells. -/
theorem Rd.Channel {w : World} {A : Option Addr} {L : List SChannel} (h : Rd w A 4 cChannel L) {k : Nat} (hk : k < L.length) :
    ∃ b o x, A = some ⟨b, o, none⟩ ∧ L[k]? = some x ∧ w.cell? ⟨b, o + k * 4, none⟩ = some (.string x.Name) ∧ w.cell? ⟨b, o + k * 4 + 1, none⟩ = some (.int .i64 x.Gain) ∧ w.cell? ⟨b, o + k * 4 + 2, none⟩ = some (.int .i64 x.Pan) ∧ w.cell? ⟨b, o + k * 4 + 3, none⟩ = some (.bool x.Muted) := by
  obtain ⟨b, o, x, e, hx, hc⟩ := h.at_ hk
  refine ⟨b, o, x, e, hx, ?_, ?_, ?_, ?_⟩
  · have := hc 0 _ rfl; simpa [← Nat.add_assoc] using this
  · have := hc 1 _ rfl; simpa [← Nat.add_assoc] using this
  · have := hc 2 _ rfl; simpa [← Nat.add_assoc] using this
  · have := hc 3 _ rfl; simpa [← Nat.add_assoc] using this

theorem infoChannel : (Tryd.prog.info? 55).map (fun i => (i.zero, i.size, i.bytes)) = some (some (.agg #[.string ⟨#[]⟩, .int .i64 0, .int .i64 0, .bool false]), 4, 40) := by kernel_rfl

set_option maxHeartbeats 1000000 in
theorem toChannel_any (x : SChannel) (w : World) :
    Calls Tryd.prog 42 #[.agg #[.string x.Name, .int .i64 x.Gain, .int .i64 x.Pan, .bool x.Muted]] w fun e w' => e = .returned (.agg #[.string x.Name, .int .i64 x.Gain, .int .i64 x.Pan, .bool x.Muted]) ∧ G w w' := by
  go_enter Tryd.func42, Tryd.ntmps42
  go_wp2
  exact bodyPost_ret (v := .agg #[.string x.Name, .int .i64 x.Gain, .int .i64 x.Pan, .bool x.Muted]) (by simp [results, Tryd.results42, go_sem]) rfl ⟨rfl, (((G.refl _).alloc _).alloc _).alloc _⟩

theorem oneChannel (x : SChannel) : (#[.string x.Name, .int .i64 x.Gain, .int .i64 x.Pan, .bool x.Muted] : Array Value).all (·.oneCell') = true := all_oneCell_toArray (cs := cChannel x) (by intro v hv; simp only [cChannel, List.mem_cons, List.not_mem_nil, or_false] at hv; rcases hv with rfl | rfl | rfl | rfl <;> rfl)
theorem flatChannel_succ {L : List SChannel} {k : Nat} {x : SChannel} (h : L[k]? = some x) : (L.take (k + 1)).flatMap cChannel = (L.take k).flatMap cChannel ++ cChannel x := by
  rw [take_snoc h, List.flatMap_append]; simp

set_option maxHeartbeats 1000000 in
theorem toChannelS_any (A : Option Addr) (n c : Nat) (L : List SChannel) (w : World) (hr : Rd w A 4 cChannel L) (hn : L.length = n) (hb : n ≤ 1048576) :
    Calls Tryd.prog 17 #[.slice A n c] w (Made w 55 4 n (L.flatMap cChannel)) := by
  obtain ⟨i0, hi, hz0, hz1, hz2⟩ := info_parts infoChannel
  have Hn := Lib.hid hn
  have HR := Lib.hid hr
  clear hn hr
  go_enter Tryd.func17, Tryd.ntmps17
  go_wp2_with (refine wpList_make_full _ rfl _ _ 39 rfl w.heap.size 55 i0 (.agg #[.string ⟨#[]⟩, .int .i64 0, .int .i64 0, .bool false]) 4 Tryd.underlying39 hi hz0 hz1 .i64 .i64 _ _ n rfl rfl rfl rfl (by rw [hz2]; omega) (by unfold maxLen; omega) (Nat.le_refl _) ?_; intro w1 hown hgrow)
  have HO := Lib.hid hown
  have HG := Lib.hid ((G.refl w).grown hgrow (by simp))
  clear hown hgrow hi hz0 hz1 hz2
  go_loopw [4] (fun i wr => ∃ (k : Nat) (xs : List Value), k ≤ n ∧ i = .int .i64 k ∧ wr.ownsRow w.heap.size 55 4 (.slice (some ⟨w.heap.size, 0, none⟩) n n) n xs ∧ xs.take (k * 4) = (L.take k).flatMap cChannel ∧ G w wr) (fun i _ => n - (intOf i).toNat)
  case atStart => exact ⟨0, _, Nat.zero_le _, rfl, HO.out, by simp, HG.out⟩
  case round =>
    obtain ⟨k, xs, hk, rfl, ho, ht, hg⟩ := hrel
    by_cases hlt : k < n
    · obtain ⟨b, o, x, rfl, hx, hc0, hc1, hc2, hc3⟩ := (HR.out.G hg).Channel (k := k) (by rw [Hn.out]; exact hlt)
      have HO2 := Lib.hid ho
      have HX := Lib.hid hx
      have HT := Lib.hid ht
      have HG2 := Lib.hid hg
      clear hx ht hg ho
      go_wp2_with (first | (go_at_call 42; refine (toChannel_any _ _).mono ?_; rintro e w2 ⟨rfl, hg2⟩; have HO3 := Lib.hid (own_G HO2.out hg2); have HG3 := Lib.hid (HG2.out.trans hg2); clear hg2) | (refine wpList_store_mid rfl 55 (.tmp 21) (.tmp 20) rfl w.heap.size (k * 4) #[.string x.Name, .int .i64 x.Gain, .int .i64 x.Pan, .bool x.Muted] rfl rfl (own_there (o := k * 4) (m := 4) HO3.out (by omega)) (by kernel_rfl) (oneChannel x) ?_; have HO4 := HO3; clear HO3))
      have HS := Lib.hid (own_setCells (cChannel x) (k * 4) HO4.out (by rw [cChannel_len]; omega))
      go_roundw
      case rel => exact ⟨k + 1, _, by omega, by go_num, HS.out.1, by rw [take_put HO4.out.1 hlt HT.out (cChannel_len x), flatChannel_succ HX.out], HG3.out.setCells (Nat.le_refl _) _⟩
      case measure => simp [intOf]; omega
    · have hkn : k = n := by omega
      have HT := Lib.hid ht
      have HG2 := Lib.hid hg
      have HO2 := Lib.hid ho
      clear ht hg ho
      go_wp2
      go_ret
      refine ⟨w.heap.size, rfl, Nat.le_refl _, (HO2.out.lt _ rfl).2, HG2.out, ?_⟩
      have h1 := HO2.out
      have h2 := HT.out
      rw [hkn, List.take_of_length_le (by have := h1.1; omega), List.take_of_length_le (by have := Hn.out; omega)] at h2
      rw [← h2]
      exact h1

set_option maxHeartbeats 1000000 in
theorem eqChannel_same (x : SChannel) (w : World) :
    Calls Tryd.prog 47 #[.agg #[.string x.Name, .int .i64 x.Gain, .int .i64 x.Pan, .bool x.Muted], .agg #[.string x.Name, .int .i64 x.Gain, .int .i64 x.Pan, .bool x.Muted]] w fun e w' => e = .returned (.bool true) ∧ G w w' := by
  go_enter Tryd.func47, Tryd.ntmps47
  go_wp2
  go_ret
  exact ⟨rfl, ((G.refl _).alloc _).alloc _⟩

set_option maxHeartbeats 1000000 in
theorem eqChannelS_same (A B : Option Addr) (n c d : Nat) (L : List SChannel) (w : World) (h1 : Rd w A 4 cChannel L) (h2 : Rd w B 4 cChannel L) (hn : L.length = n) (hb : n ≤ 4194304) :
    Calls Tryd.prog 21 #[.slice A n c, .slice B n d] w fun e w' => e = .returned (.bool true) ∧ G w w' := by
  have Hn := Lib.hid hn
  have H1 := Lib.hid h1
  have H2 := Lib.hid h2
  clear hn h1 h2
  go_enter Tryd.func21, Tryd.ntmps21
  go_wp2
  go_loopw [5] (fun i wr => ∃ (k : Nat), k ≤ n ∧ i = .int .i64 k ∧ G w wr) (fun i _ => n - (intOf i).toNat)
  case atStart => exact ⟨0, Nat.zero_le _, rfl, G.refl _⟩
  case round =>
    obtain ⟨k, hk, rfl, hg⟩ := hrel
    have HG := Lib.hid hg
    clear hg
    by_cases hlt : k < n
    · obtain ⟨b, o, x, rfl, hx, hc0, hc1, hc2, hc3⟩ := (H1.out.G HG.out).Channel (k := k) (by rw [Hn.out]; exact hlt)
      obtain ⟨b2, o2, x2, rfl, hx2, hd0, hd1, hd2, hd3⟩ := (H2.out.G HG.out).Channel (k := k) (by rw [Hn.out]; exact hlt)
      obtain rfl : x = x2 := Option.some.inj (hx.symm.trans hx2)
      clear hx hx2
      have gc0 := cellR hc0; have gd0 := cellR hd0; have gc1 := cellR hc1; have gd1 := cellR hd1; have gc2 := cellR hc2; have gd2 := cellR hd2; have gc3 := cellR hc3; have gd3 := cellR hd3
      clear hc0 hd0 hc1 hd1 hc2 hd2 hc3 hd3
      have hlt2 : (k : Int) < (n : Int) := by omega
      have hk0 : 0 ≤ (k : Int) := by omega
      go_wp2
      refine region_quiet_G (by kernel_rfl) (by kernel_rfl) ?_; (repeat (go_big_quiet_step (((go_at_call 47; exact quiet_G (eqChannel_same _ _)))))); refine wpQuiet_nil ?_
      intro w2 hg2
      have HG2 := Lib.hid (HG.out.trans hg2)
      clear hg2 gc0 gd0 gc1 gd1 gc2 gd2 gc3 gd3
      go_wp2
      go_roundw
      case rel => exact ⟨k + 1, by omega, by go_num, HG2.out⟩
      case measure => simp [intOf]; omega
    · go_wp2
      go_ret
      exact ⟨rfl, HG.out⟩

set_option maxHeartbeats 1000000 in
theorem szChannel_any (x : SChannel) (left : Int) (w : World) (hw : WfChannel x) (h0 : 0 ≤ left) (h1 : left ≤ 4194304) :
    Calls Tryd.prog 35 #[.agg #[.string x.Name, .int .i64 x.Gain, .int .i64 x.Pan, .bool x.Muted], .int .i64 left] w fun e w' => e = .returned (.int .i64 (szR (left - szChannel x))) ∧ G w w' := by
  unfold WfChannel maxLen at hw
  by_cases q0 : left - (x.Name.size : Int) < 0
  · have H := Lib.hid (show szR (left - szChannel x) = -1 from szR_neg (by unfold szChannel; omega))
    go_enter Tryd.func35, Tryd.ntmps35
    go_wp2
    go_ret
    exact ⟨ret_int H.out.symm, (G.refl _).alloc _⟩
  have H := Lib.hid (show szR (left - szChannel x) = left - (x.Name.size : Int) by rw [szR_pos (by unfold szChannel; omega)]; unfold szChannel; omega)
  go_enter Tryd.func35, Tryd.ntmps35
  go_wp2
  go_ret
  exact ⟨ret_int H.out.symm, (G.refl _).alloc _⟩

set_option maxHeartbeats 1000000 in
theorem szChannelS_any (A : Option Addr) (n c : Nat) (L : List SChannel) (left : Int) (w : World) (hr : Rd w A 4 cChannel L) (hn : L.length = n) (hwf : ∀ x ∈ L, WfChannel x) (hm : n ≤ maxLen) (h0 : 0 ≤ left) (h1 : left ≤ 4194304) :
    Calls Tryd.prog 14 #[.slice A n c, .int .i64 left] w fun e w' => e = .returned (.int .i64 (szR (left - n - tot szChannel L))) ∧ G w w' := by
  unfold maxLen at hm
  have Hn := Lib.hid hn
  have HR := Lib.hid hr
  have HW := Lib.hid hwf
  have t0 := tot_nonneg szChannel szChannel_nonneg L
  clear hn hr hwf
  by_cases q : left - n < 0
  · have H := Lib.hid (show szR (left - n - tot szChannel L) = -1 from szR_neg (by omega))
    go_enter Tryd.func14, Tryd.ntmps14
    go_wp2
    go_ret
    exact ⟨ret_int H.out.symm, G.refl _⟩
  go_enter Tryd.func14, Tryd.ntmps14
  go_wp2
  go_loopw [5, 1] (fun i v wr => ∃ (k : Nat) (y : Int), k ≤ n ∧ i = .int .i64 k ∧ v = .int .i64 y ∧ 0 ≤ y ∧ y ≤ left ∧ y = left - n - tot szChannel (L.take k) ∧ G w wr) (fun i _ _ => n - (intOf i).toNat)
  case atStart => exact ⟨0, _, Nat.zero_le _, rfl, rfl, by omega, by omega, by simp [tot], G.refl _⟩
  case round =>
    obtain ⟨k, y, hk, rfl, rfl, hy0, hy1, hy, hg⟩ := hrel
    have HY := Lib.hid hy
    have HG := Lib.hid hg
    clear hy hg
    by_cases hlt : k < n
    · obtain ⟨b, o, x, rfl, hx, hc0, hc1, hc2, hc3⟩ := (HR.out.G HG.out).Channel (k := k) (by rw [Hn.out]; exact hlt)
      have hwx := Lib.hid (HW.out x (List.mem_of_getElem? hx))
      have HX := Lib.hid (tot_snoc szChannel hx)
      have HTk := Lib.hid (tot_take szChannel szChannel_nonneg L (k + 1))
      clear hx
      have hs0 := szChannel_nonneg x
      by_cases hy2 : y - szChannel x < 0
      · have H := Lib.hid (show szR (left - n - tot szChannel L) = -1 from szR_neg (by have := HX.out; have := HTk.out; have := HY.out; omega))
        have HZ := Lib.hid (szR_neg hy2)
        go_wp2_with (go_at_call 35; refine (szChannel_any x y _ hwx.out (by omega) (by omega)).mono ?_; rintro e w2 ⟨rfl, hg2⟩; rw [HZ.out])
        go_ret
        exact ⟨ret_int H.out.symm, HG.out.trans (by assumption)⟩
      · have HZ := Lib.hid (szR_pos (y := y - szChannel x) (by omega))
        go_wp2_with (go_at_call 35; refine (szChannel_any x y _ hwx.out (by omega) (by omega)).mono ?_; rintro e w2 ⟨rfl, hg2⟩; rw [HZ.out])
        go_roundw
        case rel => exact ⟨k + 1, _, by omega, by go_num, rfl, by omega, by omega, by have := HX.out; have := HY.out; omega, HG.out.trans (by assumption)⟩
        case measure => simp [intOf]; omega
    · have H := Lib.hid (show szR (left - n - tot szChannel L) = y by
        have hy := HY.out
        rw [List.take_of_length_le (by rw [Hn.out]; omega)] at hy
        rw [← hy]
        exact szR_pos hy0)
      go_wp2
      go_ret
      exact ⟨ret_int H.out.symm, HG.out⟩

/-- The marked element that begins at the number q. -/
def mkChannel (q : Int) : SChannel := ⟨mt (q), q + 1, q + 1 + 1, ((q + 1 + 1 + 1) % 3 == 0)⟩
def mksChannel (q : Int) (n : Nat) : List SChannel := (List.range n).map fun i => mkChannel (q + 4 * (i : Nat))
theorem mksChannel_at (q : Int) (n i : Nat) (h : i < n) : (mksChannel q n)[i]? = some (mkChannel (q + 4 * i)) := by unfold mksChannel; simp [h]
theorem mksChannel_len (q : Int) (n : Nat) : (mksChannel q n).length = n := by unfold mksChannel; simp
theorem mksChannel_succ (q : Int) (n : Nat) : (mksChannel q (n + 1)).flatMap cChannel = (mksChannel q n).flatMap cChannel ++ cChannel (mkChannel (q + 4 * n)) := by unfold mksChannel; simp [List.range_succ, List.flatMap_append]

set_option maxHeartbeats 2000000 in
theorem markChannelS_any (base : Nat) (A : Option Addr) (n c : Nat) (xs : List Value) (k0 : Int) (w : World) (ho : w.ownsRow base 55 4 (.slice A n c) n xs) (hk0 : 0 ≤ k0) (hk1 : k0 ≤ 1000000) (hb : n ≤ 1048576) :
    Calls Tryd.prog 23 #[.slice A n c, .int .i64 k0] w (Marked w base 55 4 A n c (k0 + 4 * n) ((mksChannel k0 n).flatMap cChannel)) := by
  have HO := Lib.hid ho
  clear ho
  go_enter Tryd.func23, Tryd.ntmps23
  go_wp2
  go_loopw [5, 1] (fun i v wr => ∃ (k : Nat) (q : Int) (xs : List Value), k ≤ n ∧ i = .int .i64 k ∧ v = .int .i64 q ∧ q = k0 + 4 * k ∧ wr.ownsRow base 55 4 (.slice A n c) n xs ∧ xs.take (k * 4) = (mksChannel k0 k).flatMap cChannel ∧ Gx (A.map (·.block)) w wr) (fun i _ _ => n - (intOf i).toNat)
  case atStart => exact ⟨0, k0, _, Nat.zero_le _, rfl, rfl, by simp, HO.out, by simp [mksChannel], Gx.of_G (G.refl _) _⟩
  case round =>
    obtain ⟨k, q, xs, hk, rfl, rfl, hq, ho, ht, hg⟩ := hrel
    have hq0 : 0 ≤ q := by omega
    have hq1 : q ≤ 100000000 := by omega
    have HQ := Lib.hid hq
    clear hq
    by_cases hlt : k < n
    · rcases ho.2 with ⟨_, h0⟩ | ⟨g, cap, cur, hv, _⟩
      · omega
      · simp only [Value.slice.injEq] at hv
        obtain ⟨rfl, _, rfl⟩ := hv
        have O0 := Lib.hid ho
        have G0 := Lib.hid hg
        have HT := Lib.hid ht
        clear ho hg ht
        go_wp2_with fail
        refine (markText_any _ (by omega) (by omega) _).mono ?_
        rintro e w1 ⟨rfl, hg1⟩
        have O1 := Lib.hid (own_G O0.out hg1)
        have G1 := Lib.hid (Gx.trans G0.out (Gx.of_G hg1 (some g)))
        clear hg1
        obtain ⟨u0, hu0⟩ := Option.isSome_iff_exists.1 (own_there O1.out (o := k * 4) (m := 4) (by omega) 0 (by omega)).1
        have hf0 := own_frozen_of O1.out (k * 4)
        obtain ⟨u1, hu1⟩ := Option.isSome_iff_exists.1 (own_there O1.out (o := k * 4) (m := 4) (by omega) 1 (by omega)).1
        have hf1 := own_frozen_of O1.out (k * 4 + 1)
        obtain ⟨u2, hu2⟩ := Option.isSome_iff_exists.1 (own_there O1.out (o := k * 4) (m := 4) (by omega) 2 (by omega)).1
        have hf2 := own_frozen_of O1.out (k * 4 + 2)
        obtain ⟨u3, hu3⟩ := Option.isSome_iff_exists.1 (own_there O1.out (o := k * 4) (m := 4) (by omega) 3 (by omega)).1
        have hf3 := own_frozen_of O1.out (k * 4 + 3)
        simp only [Nat.add_zero] at hu0
        go_wp2
        have Z0 := Lib.hid (O1.out.stored (k * 4) (.string (mt (q))))
        have Y0 := Lib.hid Z0.out.2
        have Z1 := Lib.hid (Z0.out.1.stored (k * 4 + 1) (.int .i64 (q + 1)))
        have Y1 := Lib.hid (Gx.trans Y0.out Z1.out.2)
        have Z2 := Lib.hid (Z1.out.1.stored (k * 4 + 2) (.int .i64 (q + 1 + 1)))
        have Y2 := Lib.hid (Gx.trans Y1.out Z2.out.2)
        have Z3 := Lib.hid (Z2.out.1.stored (k * 4 + 3) (.bool (((q + 1 + 1 + 1) % 3 == 0))))
        have Y3 := Lib.hid (Gx.trans Y2.out Z3.out.2)
        go_roundw
        case rel =>
          refine ⟨k + 1, _, _, by omega, by go_num, rfl, by have := HQ.out; omega, Z3.out.1, ?_, Gx.trans G1.out Y3.out⟩
          have e := take_setL (cs := cChannel (mkChannel q)) O0.out.1 hlt HT.out (cChannel_len _)
          rw [mksChannel_succ, ← HQ.out]
          exact e
        case measure => simp [intOf]; omega
    · have hkn : k = n := by omega
      have HT := Lib.hid ht
      have HG2 := Lib.hid hg
      have HO2 := Lib.hid ho
      clear ht hg ho
      go_wp2
      go_ret
      have h1 := HO2.out
      have h2 := HT.out
      rw [hkn, List.take_of_length_le (by have := h1.1; omega)] at h2
      exact ⟨ret_int (by rw [HQ.out, hkn]), HG2.out, by rw [← h2]; exact h1⟩
end Go.Proofs.YtnnhffehboknnaaDoor
