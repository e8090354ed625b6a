/-
  Walks: the law's own functions on Fixture and on slices of Fixture: copied, compared, measured, marked, held.
-/
import Derived.Test.YthghcpgeddepnaaText
import Derived.Deep.WholeRow
import Derived.Lib.SmallJoins
namespace Go.Proofs.Ythghcpgeddepnaa
open Go.RowKit

structure SFixture where
  Name : ByteArray
  Universe : Int
  Address : Int
  Width : Int

def cFixture (x : SFixture) : List Value := [.string x.Name, .int .i64 x.Universe, .int .i64 x.Address, .int .i64 x.Width]
theorem cFixture_len (x : SFixture) : (cFixture x).length = 4 := rfl
/-- What is known of an element that came in. -/
def WfFixture (x : SFixture) : Prop := x.Name.size ≤ maxLen
/-- How many letters an element has. -/
def szFixture (x : SFixture) : Int := (x.Name.size : Int)
theorem szFixture_nonneg (x : SFixture) : 0 ≤ szFixture x := by unfold szFixture; omega
/-- The head of a slice and an element's cells. -/
theorem Rd.Fixture {w : World} {A : Option Addr} {L : List SFixture} (h : Rd w A 4 cFixture L) {k : Nat} (hk : k < L.length) :
    ∃ b o x, A = some ⟨b, o, none⟩ ∧ L[k]? = some x ∧ w.cell? ⟨b, o + k * 4, none⟩ = some (.string x.Name) ∧ w.cell? ⟨b, o + k * 4 + 1, none⟩ = some (.int .i64 x.Universe) ∧ w.cell? ⟨b, o + k * 4 + 2, none⟩ = some (.int .i64 x.Address) ∧ w.cell? ⟨b, o + k * 4 + 3, none⟩ = some (.int .i64 x.Width) := by
  obtain ⟨b, o, x, e, hx, hc⟩ := h.at_ hk
  refine ⟨b, o, x, e, hx, ?_, ?_, ?_, ?_⟩
  · have := hc 0 _ rfl; simpa [← Nat.add_assoc] using this
  · have := hc 1 _ rfl; simpa [← Nat.add_assoc] using this
  · have := hc 2 _ rfl; simpa [← Nat.add_assoc] using this
  · have := hc 3 _ rfl; simpa [← Nat.add_assoc] using this

theorem infoFixture : (Try.prog.info? 26).map (fun i => (i.zero, i.size, i.bytes)) = some (some (.agg #[.string ⟨#[]⟩, .int .i64 0, .int .i64 0, .int .i64 0]), 4, 40) := by kernel_rfl

set_option maxHeartbeats 1000000 in
theorem toFixture_any (x : SFixture) (w : World) :
    Calls Try.prog 16 #[.agg #[.string x.Name, .int .i64 x.Universe, .int .i64 x.Address, .int .i64 x.Width]] w fun e w' => e = .returned (.agg #[.string x.Name, .int .i64 x.Universe, .int .i64 x.Address, .int .i64 x.Width]) ∧ G w w' := by
  go_enter Try.func16, Try.ntmps16
  go_wp2
  exact bodyPost_ret (v := .agg #[.string x.Name, .int .i64 x.Universe, .int .i64 x.Address, .int .i64 x.Width]) (by simp [results, Try.results16, go_sem]) rfl ⟨rfl, (((G.refl _).alloc _).alloc _).alloc _⟩

theorem oneFixture (x : SFixture) : (#[.string x.Name, .int .i64 x.Universe, .int .i64 x.Address, .int .i64 x.Width] : Array Value).all (·.oneCell') = true := all_oneCell_toArray (cs := cFixture x) (by intro v hv; simp only [cFixture, List.mem_cons, List.not_mem_nil, or_false] at hv; rcases hv with rfl | rfl | rfl | rfl <;> rfl)
theorem flatFixture_succ {L : List SFixture} {k : Nat} {x : SFixture} (h : L[k]? = some x) : (L.take (k + 1)).flatMap cFixture = (L.take k).flatMap cFixture ++ cFixture x := by
  rw [take_snoc h, List.flatMap_append]; simp

set_option maxHeartbeats 1000000 in
theorem toFixtureS_any (A : Option Addr) (n c : Nat) (L : List SFixture) (w : World) (hr : Rd w A 4 cFixture L) (hn : L.length = n) (hb : n ≤ 1048576) :
    Calls Try.prog 35 #[.slice A n c] w (Made w 26 4 n (L.flatMap cFixture)) := by
  obtain ⟨i0, hi, hz0, hz1, hz2⟩ := info_parts infoFixture
  have Hn := Lib.hid hn
  have HR := Lib.hid hr
  clear hn hr
  go_enter Try.func35, Try.ntmps35
  go_wp2_with (refine wpList_make_full _ rfl _ _ 50 rfl w.heap.size 26 i0 (.agg #[.string ⟨#[]⟩, .int .i64 0, .int .i64 0, .int .i64 0]) 4 Try.underlying50 hi hz0 hz1 .i64 .i64 _ _ n rfl rfl rfl rfl (by rw [hz2]; omega) (by unfold maxLen; omega) (Nat.le_refl _) ?_; intro w1 hown hgrow)
  have HO := Lib.hid hown
  have HG := Lib.hid ((G.refl w).grown hgrow (by simp))
  clear hown hgrow hi hz0 hz1 hz2
  go_loopw [4] (fun i wr => ∃ (k : Nat) (xs : List Value), k ≤ n ∧ i = .int .i64 k ∧ wr.ownsRow w.heap.size 26 4 (.slice (some ⟨w.heap.size, 0, none⟩) n n) n xs ∧ xs.take (k * 4) = (L.take k).flatMap cFixture ∧ G w wr) (fun i _ => n - (intOf i).toNat)
  case atStart => exact ⟨0, _, Nat.zero_le _, rfl, HO.out, by simp, HG.out⟩
  case round =>
    obtain ⟨k, xs, hk, rfl, ho, ht, hg⟩ := hrel
    by_cases hlt : k < n
    · obtain ⟨b, o, x, rfl, hx, hc0, hc1, hc2, hc3⟩ := (HR.out.G hg).Fixture (k := k) (by rw [Hn.out]; exact hlt)
      have HO2 := Lib.hid ho
      have HX := Lib.hid hx
      have HT := Lib.hid ht
      have HG2 := Lib.hid hg
      clear hx ht hg ho
      go_wp2_with (first | (go_at_call 16; refine (toFixture_any _ _).mono ?_; rintro e w2 ⟨rfl, hg2⟩; have HO3 := Lib.hid (own_G HO2.out hg2); have HG3 := Lib.hid (HG2.out.trans hg2); clear hg2) | (refine wpList_store_mid rfl 26 (.tmp 21) (.tmp 20) rfl w.heap.size (k * 4) #[.string x.Name, .int .i64 x.Universe, .int .i64 x.Address, .int .i64 x.Width] rfl rfl (own_there (o := k * 4) (m := 4) HO3.out (by omega)) (by kernel_rfl) (oneFixture x) ?_; have HO4 := HO3; clear HO3))
      have HS := Lib.hid (own_setCells (cFixture x) (k * 4) HO4.out (by rw [cFixture_len]; omega))
      go_roundw
      case rel => exact ⟨k + 1, _, by omega, by go_num, HS.out.1, by rw [take_put HO4.out.1 hlt HT.out (cFixture_len x), flatFixture_succ HX.out], HG3.out.setCells (Nat.le_refl _) _⟩
      case measure => simp [intOf]; omega
    · have hkn : k = n := by omega
      have HT := Lib.hid ht
      have HG2 := Lib.hid hg
      have HO2 := Lib.hid ho
      clear ht hg ho
      go_wp2
      go_ret
      refine ⟨w.heap.size, rfl, Nat.le_refl _, (HO2.out.lt _ rfl).2, HG2.out, ?_⟩
      have h1 := HO2.out
      have h2 := HT.out
      rw [hkn, List.take_of_length_le (by have := h1.1; omega), List.take_of_length_le (by have := Hn.out; omega)] at h2
      rw [← h2]
      exact h1

set_option maxHeartbeats 1000000 in
theorem eqFixture_same (x : SFixture) (w : World) :
    Calls Try.prog 66 #[.agg #[.string x.Name, .int .i64 x.Universe, .int .i64 x.Address, .int .i64 x.Width], .agg #[.string x.Name, .int .i64 x.Universe, .int .i64 x.Address, .int .i64 x.Width]] w fun e w' => e = .returned (.bool true) ∧ G w w' := by
  go_enter Try.func66, Try.ntmps66
  go_wp2
  go_ret
  exact ⟨rfl, ((G.refl _).alloc _).alloc _⟩

set_option maxHeartbeats 1000000 in
theorem eqFixtureS_same (A B : Option Addr) (n c d : Nat) (L : List SFixture) (w : World) (h1 : Rd w A 4 cFixture L) (h2 : Rd w B 4 cFixture L) (hn : L.length = n) (hb : n ≤ 4194304) :
    Calls Try.prog 37 #[.slice A n c, .slice B n d] w fun e w' => e = .returned (.bool true) ∧ G w w' := by
  have Hn := Lib.hid hn
  have H1 := Lib.hid h1
  have H2 := Lib.hid h2
  clear hn h1 h2
  go_enter Try.func37, Try.ntmps37
  go_wp2
  go_loopw [5] (fun i wr => ∃ (k : Nat), k ≤ n ∧ i = .int .i64 k ∧ G w wr) (fun i _ => n - (intOf i).toNat)
  case atStart => exact ⟨0, Nat.zero_le _, rfl, G.refl _⟩
  case round =>
    obtain ⟨k, hk, rfl, hg⟩ := hrel
    have HG := Lib.hid hg
    clear hg
    by_cases hlt : k < n
    · obtain ⟨b, o, x, rfl, hx, hc0, hc1, hc2, hc3⟩ := (H1.out.G HG.out).Fixture (k := k) (by rw [Hn.out]; exact hlt)
      obtain ⟨b2, o2, x2, rfl, hx2, hd0, hd1, hd2, hd3⟩ := (H2.out.G HG.out).Fixture (k := k) (by rw [Hn.out]; exact hlt)
      obtain rfl : x = x2 := Option.some.inj (hx.symm.trans hx2)
      clear hx hx2
      have gc0 := cellR hc0; have gd0 := cellR hd0; have gc1 := cellR hc1; have gd1 := cellR hd1; have gc2 := cellR hc2; have gd2 := cellR hd2; have gc3 := cellR hc3; have gd3 := cellR hd3
      clear hc0 hd0 hc1 hd1 hc2 hd2 hc3 hd3
      have hlt2 : (k : Int) < (n : Int) := by omega
      have hk0 : 0 ≤ (k : Int) := by omega
      go_wp2
      refine region_quiet_G (by kernel_rfl) (by kernel_rfl) ?_; (repeat (go_big_quiet_step (((go_at_call 66; exact quiet_G (eqFixture_same _ _)))))); refine wpQuiet_nil ?_
      intro w2 hg2
      have HG2 := Lib.hid (HG.out.trans hg2)
      clear hg2 gc0 gd0 gc1 gd1 gc2 gd2 gc3 gd3
      go_wp2
      go_roundw
      case rel => exact ⟨k + 1, by omega, by go_num, HG2.out⟩
      case measure => simp [intOf]; omega
    · go_wp2
      go_ret
      exact ⟨rfl, HG.out⟩

set_option maxHeartbeats 1000000 in
theorem szFixture_any (x : SFixture) (left : Int) (w : World) (hw : WfFixture x) (h0 : 0 ≤ left) (h1 : left ≤ 4194304) :
    Calls Try.prog 14 #[.agg #[.string x.Name, .int .i64 x.Universe, .int .i64 x.Address, .int .i64 x.Width], .int .i64 left] w fun e w' => e = .returned (.int .i64 (szR (left - szFixture x))) ∧ G w w' := by
  unfold WfFixture maxLen at hw
  by_cases q0 : left - (x.Name.size : Int) < 0
  · have H := Lib.hid (show szR (left - szFixture x) = -1 from szR_neg (by unfold szFixture; omega))
    go_enter Try.func14, Try.ntmps14
    go_wp2
    go_ret
    exact ⟨ret_int H.out.symm, (G.refl _).alloc _⟩
  have H := Lib.hid (show szR (left - szFixture x) = left - (x.Name.size : Int) by rw [szR_pos (by unfold szFixture; omega)]; unfold szFixture; omega)
  go_enter Try.func14, Try.ntmps14
  go_wp2
  go_ret
  exact ⟨ret_int H.out.symm, (G.refl _).alloc _⟩

set_option maxHeartbeats 1000000 in
theorem szFixtureS_any (A : Option Addr) (n c : Nat) (L : List SFixture) (left : Int) (w : World) (hr : Rd w A 4 cFixture L) (hn : L.length = n) (hwf : ∀ x ∈ L, WfFixture x) (hm : n ≤ maxLen) (h0 : 0 ≤ left) (h1 : left ≤ 4194304) :
    Calls Try.prog 33 #[.slice A n c, .int .i64 left] w fun e w' => e = .returned (.int .i64 (szR (left - n - tot szFixture L))) ∧ G w w' := by
  unfold maxLen at hm
  have Hn := Lib.hid hn
  have HR := Lib.hid hr
  have HW := Lib.hid hwf
  have t0 := tot_nonneg szFixture szFixture_nonneg L
  clear hn hr hwf
  by_cases q : left - n < 0
  · have H := Lib.hid (show szR (left - n - tot szFixture L) = -1 from szR_neg (by omega))
    go_enter Try.func33, Try.ntmps33
    go_wp2
    go_ret
    exact ⟨ret_int H.out.symm, G.refl _⟩
  go_enter Try.func33, Try.ntmps33
  go_wp2
  go_loopw [5, 1] (fun i v wr => ∃ (k : Nat) (y : Int), k ≤ n ∧ i = .int .i64 k ∧ v = .int .i64 y ∧ 0 ≤ y ∧ y ≤ left ∧ y = left - n - tot szFixture (L.take k) ∧ G w wr) (fun i _ _ => n - (intOf i).toNat)
  case atStart => exact ⟨0, _, Nat.zero_le _, rfl, rfl, by omega, by omega, by simp [tot], G.refl _⟩
  case round =>
    obtain ⟨k, y, hk, rfl, rfl, hy0, hy1, hy, hg⟩ := hrel
    have HY := Lib.hid hy
    have HG := Lib.hid hg
    clear hy hg
    by_cases hlt : k < n
    · obtain ⟨b, o, x, rfl, hx, hc0, hc1, hc2, hc3⟩ := (HR.out.G HG.out).Fixture (k := k) (by rw [Hn.out]; exact hlt)
      have hwx := Lib.hid (HW.out x (List.mem_of_getElem? hx))
      have HX := Lib.hid (tot_snoc szFixture hx)
      have HTk := Lib.hid (tot_take szFixture szFixture_nonneg L (k + 1))
      clear hx
      have hs0 := szFixture_nonneg x
      by_cases hy2 : y - szFixture x < 0
      · have H := Lib.hid (show szR (left - n - tot szFixture L) = -1 from szR_neg (by have := HX.out; have := HTk.out; have := HY.out; omega))
        have HZ := Lib.hid (szR_neg hy2)
        go_wp2_with (go_at_call 14; refine (szFixture_any x y _ hwx.out (by omega) (by omega)).mono ?_; rintro e w2 ⟨rfl, hg2⟩; rw [HZ.out])
        go_ret
        exact ⟨ret_int H.out.symm, HG.out.trans (by assumption)⟩
      · have HZ := Lib.hid (szR_pos (y := y - szFixture x) (by omega))
        go_wp2_with (go_at_call 14; refine (szFixture_any x y _ hwx.out (by omega) (by omega)).mono ?_; rintro e w2 ⟨rfl, hg2⟩; rw [HZ.out])
        go_roundw
        case rel => exact ⟨k + 1, _, by omega, by go_num, rfl, by omega, by omega, by have := HX.out; have := HY.out; omega, HG.out.trans (by assumption)⟩
        case measure => simp [intOf]; omega
    · have H := Lib.hid (show szR (left - n - tot szFixture L) = y by
        have hy := HY.out
        rw [List.take_of_length_le (by rw [Hn.out]; omega)] at hy
        rw [← hy]
        exact szR_pos hy0)
      go_wp2
      go_ret
      exact ⟨ret_int H.out.symm, HG.out⟩

/-- The marked element that begins at the number q. -/
def mkFixture (q : Int) : SFixture := ⟨mt (q), q + 1, q + 1 + 1, q + 1 + 1 + 1⟩
def mksFixture (q : Int) (n : Nat) : List SFixture := (List.range n).map fun i => mkFixture (q + 4 * (i : Nat))
theorem mksFixture_at (q : Int) (n i : Nat) (h : i < n) : (mksFixture q n)[i]? = some (mkFixture (q + 4 * i)) := by unfold mksFixture; simp [h]
theorem mksFixture_len (q : Int) (n : Nat) : (mksFixture q n).length = n := by unfold mksFixture; simp
theorem mksFixture_succ (q : Int) (n : Nat) : (mksFixture q (n + 1)).flatMap cFixture = (mksFixture q n).flatMap cFixture ++ cFixture (mkFixture (q + 4 * n)) := by unfold mksFixture; simp [List.range_succ, List.flatMap_append]

set_option maxHeartbeats 2000000 in
theorem markFixtureS_any (base : Nat) (A : Option Addr) (n c : Nat) (xs : List Value) (k0 : Int) (w : World) (ho : w.ownsRow base 26 4 (.slice A n c) n xs) (hk0 : 0 ≤ k0) (hk1 : k0 ≤ 1000000) (hb : n ≤ 1048576) :
    Calls Try.prog 44 #[.slice A n c, .int .i64 k0] w (Marked w base 26 4 A n c (k0 + 4 * n) ((mksFixture k0 n).flatMap cFixture)) := by
  have HO := Lib.hid ho
  clear ho
  go_enter Try.func44, Try.ntmps44
  go_wp2
  go_loopw [5, 1] (fun i v wr => ∃ (k : Nat) (q : Int) (xs : List Value), k ≤ n ∧ i = .int .i64 k ∧ v = .int .i64 q ∧ q = k0 + 4 * k ∧ wr.ownsRow base 26 4 (.slice A n c) n xs ∧ xs.take (k * 4) = (mksFixture k0 k).flatMap cFixture ∧ Gx (A.map (·.block)) w wr) (fun i _ _ => n - (intOf i).toNat)
  case atStart => exact ⟨0, k0, _, Nat.zero_le _, rfl, rfl, by simp, HO.out, by simp [mksFixture], Gx.of_G (G.refl _) _⟩
  case round =>
    obtain ⟨k, q, xs, hk, rfl, rfl, hq, ho, ht, hg⟩ := hrel
    have hq0 : 0 ≤ q := by omega
    have hq1 : q ≤ 100000000 := by omega
    have HQ := Lib.hid hq
    clear hq
    by_cases hlt : k < n
    · rcases ho.2 with ⟨_, h0⟩ | ⟨g, cap, cur, hv, _⟩
      · omega
      · simp only [Value.slice.injEq] at hv
        obtain ⟨rfl, _, rfl⟩ := hv
        have O0 := Lib.hid ho
        have G0 := Lib.hid hg
        have HT := Lib.hid ht
        clear ho hg ht
        go_wp2_with fail
        refine (markText_any _ (by omega) (by omega) _).mono ?_
        rintro e w1 ⟨rfl, hg1⟩
        have O1 := Lib.hid (own_G O0.out hg1)
        have G1 := Lib.hid (Gx.trans G0.out (Gx.of_G hg1 (some g)))
        clear hg1
        obtain ⟨u0, hu0⟩ := Option.isSome_iff_exists.1 (own_there O1.out (o := k * 4) (m := 4) (by omega) 0 (by omega)).1
        have hf0 := own_frozen_of O1.out (k * 4)
        obtain ⟨u1, hu1⟩ := Option.isSome_iff_exists.1 (own_there O1.out (o := k * 4) (m := 4) (by omega) 1 (by omega)).1
        have hf1 := own_frozen_of O1.out (k * 4 + 1)
        obtain ⟨u2, hu2⟩ := Option.isSome_iff_exists.1 (own_there O1.out (o := k * 4) (m := 4) (by omega) 2 (by omega)).1
        have hf2 := own_frozen_of O1.out (k * 4 + 2)
        obtain ⟨u3, hu3⟩ := Option.isSome_iff_exists.1 (own_there O1.out (o := k * 4) (m := 4) (by omega) 3 (by omega)).1
        have hf3 := own_frozen_of O1.out (k * 4 + 3)
        simp only [Nat.add_zero] at hu0
        go_wp2
        have Z0 := Lib.hid (O1.out.stored (k * 4) (.string (mt (q))))
        have Y0 := Lib.hid Z0.out.2
        have Z1 := Lib.hid (Z0.out.1.stored (k * 4 + 1) (.int .i64 (q + 1)))
        have Y1 := Lib.hid (Gx.trans Y0.out Z1.out.2)
        have Z2 := Lib.hid (Z1.out.1.stored (k * 4 + 2) (.int .i64 (q + 1 + 1)))
        have Y2 := Lib.hid (Gx.trans Y1.out Z2.out.2)
        have Z3 := Lib.hid (Z2.out.1.stored (k * 4 + 3) (.int .i64 (q + 1 + 1 + 1)))
        have Y3 := Lib.hid (Gx.trans Y2.out Z3.out.2)
        go_roundw
        case rel =>
          refine ⟨k + 1, _, _, by omega, by go_num, rfl, by have := HQ.out; omega, Z3.out.1, ?_, Gx.trans G1.out Y3.out⟩
          have e := take_setL (cs := cFixture (mkFixture q)) O0.out.1 hlt HT.out (cFixture_len _)
          rw [mksFixture_succ, ← HQ.out]
          exact e
        case measure => simp [intOf]; omega
    · have hkn : k = n := by omega
      have HT := Lib.hid ht
      have HG2 := Lib.hid hg
      have HO2 := Lib.hid ho
      clear ht hg ho
      go_wp2
      go_ret
      have h1 := HO2.out
      have h2 := HT.out
      rw [hkn, List.take_of_length_le (by have := h1.1; omega)] at h2
      exact ⟨ret_int (by rw [HQ.out, hkn]), HG2.out, by rw [← h2]; exact h1⟩

set_option maxHeartbeats 2000000 in
theorem heldFixtureS_any (A : Option Addr) (n c : Nat) (k0 : Int) (w : World) (hr : Rd w A 4 cFixture (mksFixture k0 n)) (hk0 : 0 ≤ k0) (hk1 : k0 ≤ 1000000) (hb : n ≤ 1048576) :
    Calls Try.prog 45 #[.slice A n c, .int .i64 k0] w fun e w' => e = .returned (.int .i64 (k0 + 4 * n)) ∧ G w w' := by
  have HR := Lib.hid hr
  clear hr
  go_enter Try.func45, Try.ntmps45
  go_wp2
  go_loopw [5, 1] (fun i v wr => ∃ (k : Nat) (q : Int), k ≤ n ∧ i = .int .i64 k ∧ v = .int .i64 q ∧ q = k0 + 4 * k ∧ G w wr) (fun i _ _ => n - (intOf i).toNat)
  case atStart => exact ⟨0, k0, Nat.zero_le _, rfl, rfl, by simp, G.refl _⟩
  case round =>
    obtain ⟨k, q, hk, rfl, rfl, hq, hg⟩ := hrel
    have hq0 : 0 ≤ q := by omega
    have hq1 : q ≤ 100000000 := by omega
    have HQ := Lib.hid hq
    have G0 := Lib.hid hg
    clear hq hg
    by_cases hlt : k < n
    · obtain ⟨b, o, x, rfl, hx, hc0, hc1, hc2, hc3⟩ := (HR.out.G G0.out).Fixture (k := k) (by rw [mksFixture_len]; exact hlt)
      have hxq : x = mkFixture q := by rw [mksFixture_at k0 n k hlt, ← HQ.out] at hx; exact (Option.some.inj hx).symm
      rw [show x.Name = mt (q) by rw [hxq]; rfl] at hc0; rw [show x.Universe = q + 1 by rw [hxq]; rfl] at hc1; rw [show x.Address = q + 1 + 1 by rw [hxq]; rfl] at hc2; rw [show x.Width = q + 1 + 1 + 1 by rw [hxq]; rfl] at hc3
      clear hx hxq
      have hlt2 : (k : Int) < (n : Int) := by omega
      have hk2 : 0 ≤ (k : Int) := by omega
      have gc0 := cellR hc0
      go_wp2
      refine region_quiet_G (by kernel_rfl) (by kernel_rfl) ?_; (repeat (go_big_quiet_step (((go_at_call 75; exact quiet_G (markText_any _ (by omega) (by omega) _)))))); refine wpQuiet_nil ?_
      intro w1 hg1
      have G1 := Lib.hid (G0.out.trans hg1)
      replace hc1 := hg1.cell hc1; replace hc2 := hg1.cell hc2; replace hc3 := hg1.cell hc3
      clear hg1 gc0 hc0
      go_wp2
      go_roundw
      case rel => exact ⟨k + 1, _, by omega, by go_num, rfl, by have := HQ.out; omega, G1.out⟩
      case measure => simp [intOf]; omega
    · have hkn : k = n := by omega
      go_wp2
      go_ret
      exact ⟨ret_int (by rw [HQ.out, hkn]), G0.out⟩
end Go.Proofs.Ythghcpgeddepnaa
