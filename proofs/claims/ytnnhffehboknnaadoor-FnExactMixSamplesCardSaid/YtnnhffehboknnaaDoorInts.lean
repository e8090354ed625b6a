/-
  Walks: the law's own functions on slices of integers: copied, compared, marked, held.
-/
import Derived.Test.YtnnhffehboknnaaDoorBase
namespace Go.Proofs.YtnnhffehboknnaaDoor
open Go.RowKit

theorem infoInt : (Tryd.prog.info? 2).map (fun i => (i.zero, i.size, i.bytes)) = some (some (.int .i64 0), 1, 8) := by kernel_rfl

set_option maxHeartbeats 1000000 in
theorem toInt64S_any (A : Option Addr) (n c : Nat) (L : List Int) (w : World) (hr : Rd w A 1 iv L) (hn : L.length = n) (hb : n ≤ 1048576) :
    Calls Tryd.prog 43 #[.slice A n c] w (Made w 2 1 n (L.flatMap iv)) := by
  obtain ⟨i0, hi, hz0, hz1, hz2⟩ := info_parts infoInt
  have Hn := Lib.hid hn
  have HR := Lib.hid hr
  clear hn hr
  go_enter Tryd.func43, Tryd.ntmps43
  go_wp2_with (refine wpList_make_full _ rfl _ _ 36 rfl w.heap.size 2 i0 (.int .i64 0) 1 Tryd.underlying36 hi hz0 hz1 .i64 .i64 _ _ n rfl rfl rfl rfl (by rw [hz2]; omega) (by unfold maxLen; omega) (Nat.le_refl _) ?_; intro w1 hown hgrow)
  have HO := Lib.hid hown
  have HG := Lib.hid ((G.refl w).grown hgrow (by simp))
  clear hown hgrow hi hz0 hz1 hz2
  go_loopw [4] (fun i wr => ∃ (k : Nat) (xs : List Value), k ≤ n ∧ i = .int .i64 k ∧ wr.ownsRow w.heap.size 2 1 (.slice (some ⟨w.heap.size, 0, none⟩) n n) n xs ∧ xs.take k = (L.take k).flatMap iv ∧ G w wr) (fun i _ => n - (intOf i).toNat)
  case atStart => exact ⟨0, _, Nat.zero_le _, rfl, HO.out, by simp, HG.out⟩
  case round =>
    obtain ⟨k, xs, hk, rfl, ho, ht, hg⟩ := hrel
    by_cases hlt : k < n
    · obtain ⟨b, o, x, rfl, hx, hc⟩ := (HR.out.G hg).int (k := k) (by rw [Hn.out]; exact hlt)
      obtain ⟨u, hu⟩ := Option.isSome_iff_exists.1 (own_there ho (o := k) (m := 1) (by omega) 0 (by omega)).1
      have hf := own_frozen_of ho k
      simp only [Nat.add_zero] at hu
      have hs := ho.stored k (.int .i64 x)
      have HS := Lib.hid hs.1
      have HX := Lib.hid hx
      have HT := Lib.hid ht
      have HG2 := Lib.hid (hg.setCell (p := ⟨w.heap.size, k, none⟩) (Nat.le_refl _) (.int .i64 x))
      have HL := Lib.hid ho.1
      clear hs hx ht hg ho
      go_wp2
      go_roundw
      case rel => 
        refine ⟨k + 1, _, by omega, by go_num, HS.out, ?_, HG2.out⟩
        have hl := HL.out
        rw [take_snoc HX.out, List.flatMap_append, ← HT.out, List.take_set, List.take_succ_eq_append_getElem (by omega), List.set_append_right _ _ (by simp; omega)]
        simp [show k - min k xs.length = 0 by omega, iv]
      case measure => simp [intOf]; omega
    · have hkn : k = n := by omega
      have HT := Lib.hid ht
      have HG2 := Lib.hid hg
      have HO2 := Lib.hid ho
      clear ht hg ho
      go_wp2
      go_ret
      refine ⟨w.heap.size, rfl, Nat.le_refl _, (HO2.out.lt _ rfl).2, HG2.out, ?_⟩
      have h1 := HO2.out
      have h2 := HT.out
      rw [hkn, List.take_of_length_le (by have := h1.1; omega), List.take_of_length_le (by have := Hn.out; omega)] at h2
      rw [← h2]
      exact h1

set_option maxHeartbeats 1000000 in
theorem eqInt64S_same (A B : Option Addr) (n c d : Nat) (L : List Int) (w : World) (h1 : Rd w A 1 iv L) (h2 : Rd w B 1 iv L) (hn : L.length = n) (hb : n ≤ 4194304) :
    Calls Tryd.prog 20 #[.slice A n c, .slice B n d] w fun e w' => e = .returned (.bool true) ∧ ∃ m, w' = w.drewN m := by
  have Hn := Lib.hid hn
  have H1 := Lib.hid h1
  have H2 := Lib.hid h2
  clear hn h1 h2
  go_enter Tryd.func20, Tryd.ntmps20
  go_wp2
  go_loopw [5] (fun i wr => ∃ (k m : Nat), k ≤ n ∧ i = .int .i64 k ∧ wr = w.drewN m) (fun i _ => n - (intOf i).toNat)
  case atStart => exact ⟨0, 0, Nat.zero_le _, rfl, rfl⟩
  case round =>
    obtain ⟨k, m, hk, rfl, rfl⟩ := hrel
    by_cases hlt : k < n
    · obtain ⟨b, o, x, rfl, hx, hc⟩ := H1.out.int (k := k) (by rw [Hn.out]; exact hlt)
      obtain ⟨b2, o2, x2, rfl, hx2, hc2⟩ := H2.out.int (k := k) (by rw [Hn.out]; exact hlt)
      obtain rfl : x = x2 := Option.some.inj (hx.symm.trans hx2)
      clear hx hx2
      have hlt2 : (k : Int) < (n : Int) := by omega
      have hk0 : 0 ≤ (k : Int) := by omega
      go_wp2
      go_quiet (fail)
      go_wp2
      go_roundw
      case rel => exact ⟨k + 1, _, by omega, by go_num, rfl⟩
      case measure => simp [intOf]; omega
    · go_wp2
      go_ret
      exact ⟨rfl, _, rfl⟩

theorem eqInt64S_G (A B : Option Addr) (n c d : Nat) (L : List Int) (w : World) (h1 : Rd w A 1 iv L) (h2 : Rd w B 1 iv L) (hn : L.length = n) (hb : n ≤ 4194304) :
    Calls Tryd.prog 20 #[.slice A n c, .slice B n d] w fun e w' => e = .returned (.bool true) ∧ G w w' :=
  (eqInt64S_same A B n c d L w h1 h2 hn hb).mono fun _ _ ⟨he, m, hm⟩ => ⟨he, by rw [hm]; exact (G.refl w).drewN m⟩

/-- The numbers k, k + 1, .. -/
def upFrom (k : Int) (n : Nat) : List Int := (List.range n).map fun i => k + (i : Nat)
theorem upFrom_at (k : Int) (n i : Nat) (h : i < n) : (upFrom k n)[i]? = some (k + i) := by unfold upFrom; simp [h]
theorem upFrom_len (k : Int) (n : Nat) : (upFrom k n).length = n := by unfold upFrom; simp
theorem upFrom_succ (k : Int) (n : Nat) : upFrom k (n + 1) = upFrom k n ++ [k + n] := by unfold upFrom; simp [List.range_succ]

set_option maxHeartbeats 1000000 in
theorem markInt64S_any (base : Nat) (A : Option Addr) (n c : Nat) (xs : List Value) (k0 : Int) (w : World) (ho : w.ownsRow base 2 1 (.slice A n c) n xs) (hk0 : 0 ≤ k0) (hk1 : k0 ≤ 1000000000000) (hb : n ≤ 4194304) :
    Calls Tryd.prog 25 #[.slice A n c, .int .i64 k0] w (Marked w base 2 1 A n c (k0 + n) ((upFrom k0 n).flatMap iv)) := by
  have HO := Lib.hid ho
  clear ho
  go_enter Tryd.func25, Tryd.ntmps25
  go_wp2
  go_loopw [5, 1] (fun i v wr => ∃ (k : Nat) (xs : List Value), k ≤ n ∧ i = .int .i64 k ∧ v = .int .i64 (k0 + k) ∧ wr.ownsRow base 2 1 (.slice A n c) n xs ∧ xs.take k = (upFrom k0 k).flatMap iv ∧ Gx (A.map (·.block)) w wr) (fun i _ _ => n - (intOf i).toNat)
  case atStart => exact ⟨0, _, Nat.zero_le _, rfl, by simp, HO.out, by simp [upFrom], Gx.of_G (G.refl _) _⟩
  case round =>
    obtain ⟨k, xs, hk, rfl, rfl, ho, ht, hg⟩ := hrel
    by_cases hlt : k < n
    · rcases ho.2 with ⟨_, h0⟩ | ⟨g, cap, cur, hv, _⟩
      · omega
      · simp only [Value.slice.injEq] at hv
        obtain ⟨rfl, _, rfl⟩ := hv
        obtain ⟨u, hu⟩ := Option.isSome_iff_exists.1 (own_there ho (o := k) (m := 1) (by omega) 0 (by omega)).1
        have hf := own_frozen_of ho k
        simp only [Nat.add_zero] at hu
        have hs := ho.stored k (.int .i64 (k0 + k))
        have HS := Lib.hid hs.1
        have HT := Lib.hid ht
        have HG2 := Lib.hid (Gx.trans hg hs.2)
        have HL := Lib.hid ho.1
        clear hs ht hg ho
        go_wp2
        go_roundw
        case rel =>
          refine ⟨k + 1, _, by omega, by go_num, by go_num, HS.out, ?_, HG2.out⟩
          have hl := HL.out
          rw [upFrom_succ, List.flatMap_append, ← HT.out, List.take_set, List.take_succ_eq_append_getElem (by omega), List.set_append_right _ _ (by simp; omega)]
          simp [show k - min k xs.length = 0 by omega, iv]
        case measure => simp [intOf]; omega
    · have hkn : k = n := by omega
      have HT := Lib.hid ht
      have HG2 := Lib.hid hg
      have HO2 := Lib.hid ho
      clear ht hg ho
      go_wp2
      go_ret
      have h1 := HO2.out
      have h2 := HT.out
      rw [hkn, List.take_of_length_le (by have := h1.1; omega)] at h2
      exact ⟨ret_int (by rw [hkn]), HG2.out, by rw [← h2]; exact h1⟩

set_option maxHeartbeats 1000000 in
theorem heldInt64S_any (A : Option Addr) (n c : Nat) (k0 : Int) (w : World) (hr : Rd w A 1 iv (upFrom k0 n)) (hk0 : 0 ≤ k0) (hk1 : k0 ≤ 1000000000000) (hb : n ≤ 4194304) :
    Calls Tryd.prog 26 #[.slice A n c, .int .i64 k0] w fun e w' => e = .returned (.int .i64 (k0 + n)) ∧ ∃ m, w' = w.drewN m := by
  have HR := Lib.hid hr
  clear hr
  go_enter Tryd.func26, Tryd.ntmps26
  go_wp2
  go_loopw [5, 1] (fun i v wr => ∃ (k m : Nat), k ≤ n ∧ i = .int .i64 k ∧ v = .int .i64 (k0 + k) ∧ wr = w.drewN m) (fun i _ _ => n - (intOf i).toNat)
  case atStart => exact ⟨0, 0, Nat.zero_le _, rfl, by simp, rfl⟩
  case round =>
    obtain ⟨k, m, hk, rfl, rfl, rfl⟩ := hrel
    by_cases hlt : k < n
    · obtain ⟨b, o, x, rfl, hx, hc⟩ := HR.out.int (k := k) (by rw [upFrom_len]; exact hlt)
      obtain rfl : k0 + k = x := Option.some.inj ((upFrom_at k0 n k hlt).symm.trans hx)
      clear hx
      have hlt2 : (k : Int) < (n : Int) := by omega
      have hk2 : 0 ≤ (k : Int) := by omega
      go_wp2
      go_roundw
      case rel => exact ⟨k + 1, _, by omega, by go_num, by go_num, rfl⟩
      case measure => simp [intOf]; omega
    · have hkn : k = n := by omega
      go_wp2
      go_ret
      exact ⟨ret_int (by rw [hkn]), _, rfl⟩
end Go.Proofs.YtnnhffehboknnaaDoor
