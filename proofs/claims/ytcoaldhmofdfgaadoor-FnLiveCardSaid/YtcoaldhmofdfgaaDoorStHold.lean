/-
  Walks: the law's own functions on Hold and on slices of Hold: copied, compared, measured, marked, held.
-/
import Derived.Test.YtcoaldhmofdfgaaDoorText
import Derived.Deep.WholeRow
import Derived.Lib.SmallJoins
namespace Go.Proofs.YtcoaldhmofdfgaaDoor
open Go.RowKit

structure SHold where
  At : Int
  Length : Int

def cHold (x : SHold) : List Value := [.int .i64 x.At, .int .i64 x.Length]
theorem cHold_len (x : SHold) : (cHold x).length = 2 := rfl
/-- What is known of an element that came in. -/
def WfHold (_x : SHold) : Prop := True
/-- How many letters an element has. -/
def szHold (_x : SHold) : Int := 0
theorem szHold_nonneg (x : SHold) : 0 ≤ szHold x := by unfold szHold; omega
/-- The head of a slice and an element's cells. -/
theorem Rd.Hold {w : World} {A : Option Addr} {L : List SHold} (h : Rd w A 2 cHold L) {k : Nat} (hk : k < L.length) :
    ∃ b o x, A = some ⟨b, o, none⟩ ∧ L[k]? = some x ∧ w.cell? ⟨b, o + k * 2, none⟩ = some (.int .i64 x.At) ∧ w.cell? ⟨b, o + k * 2 + 1, none⟩ = some (.int .i64 x.Length) := by
  obtain ⟨b, o, x, e, hx, hc⟩ := h.at_ hk
  refine ⟨b, o, x, e, hx, ?_, ?_⟩
  · have := hc 0 _ rfl; simpa [← Nat.add_assoc] using this
  · have := hc 1 _ rfl; simpa [← Nat.add_assoc] using this

theorem infoHold : (Tryd.prog.info? 54).map (fun i => (i.zero, i.size, i.bytes)) = some (some (.agg #[.int .i64 0, .int .i64 0]), 2, 16) := by kernel_rfl

set_option maxHeartbeats 1000000 in
theorem toHold_any (x : SHold) (w : World) :
    Calls Tryd.prog 32 #[.agg #[.int .i64 x.At, .int .i64 x.Length]] w fun e w' => e = .returned (.agg #[.int .i64 x.At, .int .i64 x.Length]) ∧ G w w' := by
  go_enter Tryd.func32, Tryd.ntmps32
  go_wp2
  exact bodyPost_ret (v := .agg #[.int .i64 x.At, .int .i64 x.Length]) (by simp [results, Tryd.results32, go_sem]) rfl ⟨rfl, (((G.refl _).alloc _).alloc _).alloc _⟩

theorem oneHold (x : SHold) : (#[.int .i64 x.At, .int .i64 x.Length] : Array Value).all (·.oneCell') = true := all_oneCell_toArray (cs := cHold x) (by intro v hv; simp only [cHold, List.mem_cons, List.not_mem_nil, or_false] at hv; rcases hv with rfl | rfl <;> rfl)
theorem flatHold_succ {L : List SHold} {k : Nat} {x : SHold} (h : L[k]? = some x) : (L.take (k + 1)).flatMap cHold = (L.take k).flatMap cHold ++ cHold x := by
  rw [take_snoc h, List.flatMap_append]; simp

set_option maxHeartbeats 1000000 in
theorem toHoldS_any (A : Option Addr) (n c : Nat) (L : List SHold) (w : World) (hr : Rd w A 2 cHold L) (hn : L.length = n) (hb : n ≤ 1048576) :
    Calls Tryd.prog 9 #[.slice A n c] w (Made w 54 2 n (L.flatMap cHold)) := by
  obtain ⟨i0, hi, hz0, hz1, hz2⟩ := info_parts infoHold
  have Hn := Lib.hid hn
  have HR := Lib.hid hr
  clear hn hr
  go_enter Tryd.func9, Tryd.ntmps9
  go_wp2_with (refine wpList_make_full _ rfl _ _ 25 rfl w.heap.size 54 i0 (.agg #[.int .i64 0, .int .i64 0]) 2 Tryd.underlying25 hi hz0 hz1 .i64 .i64 _ _ n rfl rfl rfl rfl (by rw [hz2]; omega) (by unfold maxLen; omega) (Nat.le_refl _) ?_; intro w1 hown hgrow)
  have HO := Lib.hid hown
  have HG := Lib.hid ((G.refl w).grown hgrow (by simp))
  clear hown hgrow hi hz0 hz1 hz2
  go_loopw [4] (fun i wr => ∃ (k : Nat) (xs : List Value), k ≤ n ∧ i = .int .i64 k ∧ wr.ownsRow w.heap.size 54 2 (.slice (some ⟨w.heap.size, 0, none⟩) n n) n xs ∧ xs.take (k * 2) = (L.take k).flatMap cHold ∧ G w wr) (fun i _ => n - (intOf i).toNat)
  case atStart => exact ⟨0, _, Nat.zero_le _, rfl, HO.out, by simp, HG.out⟩
  case round =>
    obtain ⟨k, xs, hk, rfl, ho, ht, hg⟩ := hrel
    by_cases hlt : k < n
    · obtain ⟨b, o, x, rfl, hx, hc0, hc1⟩ := (HR.out.G hg).Hold (k := k) (by rw [Hn.out]; exact hlt)
      have HO2 := Lib.hid ho
      have HX := Lib.hid hx
      have HT := Lib.hid ht
      have HG2 := Lib.hid hg
      clear hx ht hg ho
      go_wp2_with (first | (go_at_call 32; refine (toHold_any _ _).mono ?_; rintro e w2 ⟨rfl, hg2⟩; have HO3 := Lib.hid (own_G HO2.out hg2); have HG3 := Lib.hid (HG2.out.trans hg2); clear hg2) | (refine wpList_store_mid rfl 54 (.tmp 21) (.tmp 20) rfl w.heap.size (k * 2) #[.int .i64 x.At, .int .i64 x.Length] rfl rfl (own_there (o := k * 2) (m := 2) HO3.out (by omega)) (by kernel_rfl) (oneHold x) ?_; have HO4 := HO3; clear HO3))
      have HS := Lib.hid (own_setCells (cHold x) (k * 2) HO4.out (by rw [cHold_len]; omega))
      go_roundw
      case rel => exact ⟨k + 1, _, by omega, by go_num, HS.out.1, by rw [take_put HO4.out.1 hlt HT.out (cHold_len x), flatHold_succ HX.out], HG3.out.setCells (Nat.le_refl _) _⟩
      case measure => simp [intOf]; omega
    · have hkn : k = n := by omega
      have HT := Lib.hid ht
      have HG2 := Lib.hid hg
      have HO2 := Lib.hid ho
      clear ht hg ho
      go_wp2
      go_ret
      refine ⟨w.heap.size, rfl, Nat.le_refl _, (HO2.out.lt _ rfl).2, HG2.out, ?_⟩
      have h1 := HO2.out
      have h2 := HT.out
      rw [hkn, List.take_of_length_le (by have := h1.1; omega), List.take_of_length_le (by have := Hn.out; omega)] at h2
      rw [← h2]
      exact h1

set_option maxHeartbeats 1000000 in
theorem eqHold_same (x : SHold) (w : World) :
    Calls Tryd.prog 36 #[.agg #[.int .i64 x.At, .int .i64 x.Length], .agg #[.int .i64 x.At, .int .i64 x.Length]] w fun e w' => e = .returned (.bool true) ∧ G w w' := by
  go_enter Tryd.func36, Tryd.ntmps36
  go_wp2
  go_ret
  exact ⟨rfl, ((G.refl _).alloc _).alloc _⟩

set_option maxHeartbeats 1000000 in
theorem eqHoldS_same (A B : Option Addr) (n c d : Nat) (L : List SHold) (w : World) (h1 : Rd w A 2 cHold L) (h2 : Rd w B 2 cHold L) (hn : L.length = n) (hb : n ≤ 4194304) :
    Calls Tryd.prog 11 #[.slice A n c, .slice B n d] w fun e w' => e = .returned (.bool true) ∧ G w w' := by
  have Hn := Lib.hid hn
  have H1 := Lib.hid h1
  have H2 := Lib.hid h2
  clear hn h1 h2
  go_enter Tryd.func11, Tryd.ntmps11
  go_wp2
  go_loopw [5] (fun i wr => ∃ (k : Nat), k ≤ n ∧ i = .int .i64 k ∧ G w wr) (fun i _ => n - (intOf i).toNat)
  case atStart => exact ⟨0, Nat.zero_le _, rfl, G.refl _⟩
  case round =>
    obtain ⟨k, hk, rfl, hg⟩ := hrel
    have HG := Lib.hid hg
    clear hg
    by_cases hlt : k < n
    · obtain ⟨b, o, x, rfl, hx, hc0, hc1⟩ := (H1.out.G HG.out).Hold (k := k) (by rw [Hn.out]; exact hlt)
      obtain ⟨b2, o2, x2, rfl, hx2, hd0, hd1⟩ := (H2.out.G HG.out).Hold (k := k) (by rw [Hn.out]; exact hlt)
      obtain rfl : x = x2 := Option.some.inj (hx.symm.trans hx2)
      clear hx hx2
      have gc0 := cellR hc0; have gd0 := cellR hd0; have gc1 := cellR hc1; have gd1 := cellR hd1
      clear hc0 hd0 hc1 hd1
      have hlt2 : (k : Int) < (n : Int) := by omega
      have hk0 : 0 ≤ (k : Int) := by omega
      go_wp2
      refine region_quiet_G (by kernel_rfl) (by kernel_rfl) ?_; (repeat (go_big_quiet_step (((go_at_call 36; exact quiet_G (eqHold_same _ _)))))); refine wpQuiet_nil ?_
      intro w2 hg2
      have HG2 := Lib.hid (HG.out.trans hg2)
      clear hg2 gc0 gd0 gc1 gd1
      go_wp2
      go_roundw
      case rel => exact ⟨k + 1, by omega, by go_num, HG2.out⟩
      case measure => simp [intOf]; omega
    · go_wp2
      go_ret
      exact ⟨rfl, HG.out⟩

set_option maxHeartbeats 400000 in
theorem szHoldS_any (A : Option Addr) (n c : Nat) (left : Int) (w : World) (hm : n ≤ 9223372036854775807) (h0 : 0 ≤ left) (h1 : left ≤ 4194304) :
    Calls Tryd.prog 7 #[.slice A n c, .int .i64 left] w fun e w' => e = .returned (.int .i64 (szR (left - n))) ∧ G w w' := by
  by_cases q : left - n < 0
  · have H := Lib.hid (szR_neg q)
    go_enter Tryd.func7, Tryd.ntmps7
    go_wp2
    go_ret
    exact ⟨ret_int H.out.symm, G.refl _⟩
  · have H := Lib.hid (szR_pos (y := left - n) (by omega))
    go_enter Tryd.func7, Tryd.ntmps7
    go_wp2
    go_ret
    exact ⟨ret_int H.out.symm, G.refl _⟩

/-- The marked element that begins at the number q. -/
def mkHold (q : Int) : SHold := ⟨q, q + 1⟩
def mksHold (q : Int) (n : Nat) : List SHold := (List.range n).map fun i => mkHold (q + 2 * (i : Nat))
theorem mksHold_at (q : Int) (n i : Nat) (h : i < n) : (mksHold q n)[i]? = some (mkHold (q + 2 * i)) := by unfold mksHold; simp [h]
theorem mksHold_len (q : Int) (n : Nat) : (mksHold q n).length = n := by unfold mksHold; simp
theorem mksHold_succ (q : Int) (n : Nat) : (mksHold q (n + 1)).flatMap cHold = (mksHold q n).flatMap cHold ++ cHold (mkHold (q + 2 * n)) := by unfold mksHold; simp [List.range_succ, List.flatMap_append]

set_option maxHeartbeats 2000000 in
theorem markHoldS_any (base : Nat) (A : Option Addr) (n c : Nat) (xs : List Value) (k0 : Int) (w : World) (ho : w.ownsRow base 54 2 (.slice A n c) n xs) (hk0 : 0 ≤ k0) (hk1 : k0 ≤ 1000000) (hb : n ≤ 1048576) :
    Calls Tryd.prog 14 #[.slice A n c, .int .i64 k0] w (Marked w base 54 2 A n c (k0 + 2 * n) ((mksHold k0 n).flatMap cHold)) := by
  have HO := Lib.hid ho
  clear ho
  go_enter Tryd.func14, Tryd.ntmps14
  go_wp2
  go_loopw [5, 1] (fun i v wr => ∃ (k : Nat) (q : Int) (xs : List Value), k ≤ n ∧ i = .int .i64 k ∧ v = .int .i64 q ∧ q = k0 + 2 * k ∧ wr.ownsRow base 54 2 (.slice A n c) n xs ∧ xs.take (k * 2) = (mksHold k0 k).flatMap cHold ∧ Gx (A.map (·.block)) w wr) (fun i _ _ => n - (intOf i).toNat)
  case atStart => exact ⟨0, k0, _, Nat.zero_le _, rfl, rfl, by simp, HO.out, by simp [mksHold], Gx.of_G (G.refl _) _⟩
  case round =>
    obtain ⟨k, q, xs, hk, rfl, rfl, hq, ho, ht, hg⟩ := hrel
    have hq0 : 0 ≤ q := by omega
    have hq1 : q ≤ 100000000 := by omega
    have HQ := Lib.hid hq
    clear hq
    by_cases hlt : k < n
    · rcases ho.2 with ⟨_, h0⟩ | ⟨g, cap, cur, hv, _⟩
      · omega
      · simp only [Value.slice.injEq] at hv
        obtain ⟨rfl, _, rfl⟩ := hv
        have O0 := Lib.hid ho
        have G0 := Lib.hid hg
        have HT := Lib.hid ht
        clear ho hg ht
        have O1 := Lib.hid O0.out
        have G1 := Lib.hid G0.out
        obtain ⟨u0, hu0⟩ := Option.isSome_iff_exists.1 (own_there O1.out (o := k * 2) (m := 2) (by omega) 0 (by omega)).1
        have hf0 := own_frozen_of O1.out (k * 2)
        obtain ⟨u1, hu1⟩ := Option.isSome_iff_exists.1 (own_there O1.out (o := k * 2) (m := 2) (by omega) 1 (by omega)).1
        have hf1 := own_frozen_of O1.out (k * 2 + 1)
        simp only [Nat.add_zero] at hu0
        go_wp2
        have Z0 := Lib.hid (O1.out.stored (k * 2) (.int .i64 (q)))
        have Y0 := Lib.hid Z0.out.2
        have Z1 := Lib.hid (Z0.out.1.stored (k * 2 + 1) (.int .i64 (q + 1)))
        have Y1 := Lib.hid (Gx.trans Y0.out Z1.out.2)
        go_roundw
        case rel =>
          refine ⟨k + 1, _, _, by omega, by go_num, rfl, by have := HQ.out; omega, Z1.out.1, ?_, Gx.trans G1.out Y1.out⟩
          have e := take_setL (cs := cHold (mkHold q)) O0.out.1 hlt HT.out (cHold_len _)
          rw [mksHold_succ, ← HQ.out]
          exact e
        case measure => simp [intOf]; omega
    · have hkn : k = n := by omega
      have HT := Lib.hid ht
      have HG2 := Lib.hid hg
      have HO2 := Lib.hid ho
      clear ht hg ho
      go_wp2
      go_ret
      have h1 := HO2.out
      have h2 := HT.out
      rw [hkn, List.take_of_length_le (by have := h1.1; omega)] at h2
      exact ⟨ret_int (by rw [HQ.out, hkn]), HG2.out, by rw [← h2]; exact h1⟩

set_option maxHeartbeats 2000000 in
theorem heldHoldS_any (A : Option Addr) (n c : Nat) (k0 : Int) (w : World) (hr : Rd w A 2 cHold (mksHold k0 n)) (hk0 : 0 ≤ k0) (hk1 : k0 ≤ 1000000) (hb : n ≤ 1048576) :
    Calls Tryd.prog 15 #[.slice A n c, .int .i64 k0] w fun e w' => e = .returned (.int .i64 (k0 + 2 * n)) ∧ G w w' := by
  have HR := Lib.hid hr
  clear hr
  go_enter Tryd.func15, Tryd.ntmps15
  go_wp2
  go_loopw [5, 1] (fun i v wr => ∃ (k : Nat) (q : Int), k ≤ n ∧ i = .int .i64 k ∧ v = .int .i64 q ∧ q = k0 + 2 * k ∧ G w wr) (fun i _ _ => n - (intOf i).toNat)
  case atStart => exact ⟨0, k0, Nat.zero_le _, rfl, rfl, by simp, G.refl _⟩
  case round =>
    obtain ⟨k, q, hk, rfl, rfl, hq, hg⟩ := hrel
    have hq0 : 0 ≤ q := by omega
    have hq1 : q ≤ 100000000 := by omega
    have HQ := Lib.hid hq
    have G0 := Lib.hid hg
    clear hq hg
    by_cases hlt : k < n
    · obtain ⟨b, o, x, rfl, hx, hc0, hc1⟩ := (HR.out.G G0.out).Hold (k := k) (by rw [mksHold_len]; exact hlt)
      have hxq : x = mkHold q := by rw [mksHold_at k0 n k hlt, ← HQ.out] at hx; exact (Option.some.inj hx).symm
      rw [show x.At = q by rw [hxq]; rfl] at hc0; rw [show x.Length = q + 1 by rw [hxq]; rfl] at hc1
      clear hx hxq
      have hlt2 : (k : Int) < (n : Int) := by omega
      have hk2 : 0 ≤ (k : Int) := by omega
      go_wp2
      go_roundw
      case rel => exact ⟨k + 1, _, by omega, by go_num, rfl, by have := HQ.out; omega, G0.out⟩
      case measure => simp [intOf]; omega
    · have hkn : k = n := by omega
      go_wp2
      go_ret
      exact ⟨ret_int (by rw [HQ.out, hkn]), G0.out⟩
end Go.Proofs.YtcoaldhmofdfgaaDoor
