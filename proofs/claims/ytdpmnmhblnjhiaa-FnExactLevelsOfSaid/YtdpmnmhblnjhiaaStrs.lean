/-
  Walks: the law's own functions on slices of texts: compared, marked, held.
-/
import Derived.Test.YtdpmnmhblnjhiaaText
import Derived.Test.YtdpmnmhblnjhiaaRes
namespace Go.Proofs.Ytdpmnmhblnjhiaa
open Go.RowKit

theorem infoString : (Try.prog.info? 9).map (fun i => (i.zero, i.size, i.bytes)) = some (some (.string ⟨#[]⟩), 1, 16) := by kernel_rfl
/-- Texts: one cell each. -/
def sv (s : ByteArray) : List Value := [.string s]
theorem Rd.str {w : World} {A : Option Addr} {L : List ByteArray} (h : Rd w A 1 sv L) {k : Nat} (hk : k < L.length) :
    ∃ b o x, A = some ⟨b, o, none⟩ ∧ L[k]? = some x ∧ w.cell? ⟨b, o + k, none⟩ = some (.string x) := by
  obtain ⟨b, o, x, e, hx, hc⟩ := h.at_ hk
  exact ⟨b, o, x, e, hx, by simpa using hc 0 (.string x) rfl⟩
theorem rd_strs {w : World} {base : Nat} {e : TypeId} {n : Nat} {A : Option Addr} {c : Nat} {L : List ByteArray} (h : w.ownsRow base e 1 (.slice A n c) n (L.flatMap sv)) : Rd w A 1 sv L :=
  rd_own Nat.one_pos (fun _ => rfl) h

set_option maxHeartbeats 1000000 in
theorem eqStringS_same (A B : Option Addr) (n c d : Nat) (L : List ByteArray) (w : World) (h1 : Rd w A 1 sv L) (h2 : Rd w B 1 sv L) (hn : L.length = n) (hb : n ≤ 4194304) :
    Calls Try.prog 43 #[.slice A n c, .slice B n d] w fun e w' => e = .returned (.bool true) ∧ G w w' := by
  have Hn := Lib.hid hn
  have H1 := Lib.hid h1
  have H2 := Lib.hid h2
  clear hn h1 h2
  go_enter Try.func43, Try.ntmps43
  go_wp2
  go_loopw [5] (fun i wr => ∃ (k : Nat), k ≤ n ∧ i = .int .i64 k ∧ G w wr) (fun i _ => n - (intOf i).toNat)
  case atStart => exact ⟨0, Nat.zero_le _, rfl, G.refl _⟩
  case round =>
    obtain ⟨k, hk, rfl, hg⟩ := hrel
    have G0 := Lib.hid hg
    clear hg
    by_cases hlt : k < n
    · obtain ⟨b, o, x, rfl, hx, hc⟩ := (H1.out.G G0.out).str (k := k) (by rw [Hn.out]; exact hlt)
      obtain ⟨b2, o2, x2, rfl, hx2, hc2⟩ := (H2.out.G G0.out).str (k := k) (by rw [Hn.out]; exact hlt)
      obtain rfl : x = x2 := Option.some.inj (hx.symm.trans hx2)
      have gc := cellR hc
      have gc2 := cellR hc2
      have hq : (x.toList == x.toList) = true := by simp
      clear hx hx2 hc hc2
      have hlt2 : (k : Int) < (n : Int) := by omega
      have hk0 : 0 ≤ (k : Int) := by omega
      go_wp2
      refine region_quiet_G (by kernel_rfl) (by kernel_rfl) ?_; (repeat (go_big_quiet_step ((fail)))); refine wpQuiet_nil ?_
      intro w1 hg1
      have G1 := Lib.hid (G0.out.trans hg1)
      clear hg1 gc gc2 hq
      go_wp2
      go_roundw
      case rel => exact ⟨k + 1, by omega, by go_num, G1.out⟩
      case measure => simp [intOf]; omega
    · go_wp2
      go_ret
      exact ⟨rfl, G0.out⟩

def mksString (k0 : Int) (n : Nat) : List ByteArray := (List.range n).map fun i => mt (k0 + (i : Nat))
theorem mksString_at (k : Int) (n i : Nat) (h : i < n) : (mksString k n)[i]? = some (mt (k + i)) := by unfold mksString; simp [h]
theorem mksString_len (k : Int) (n : Nat) : (mksString k n).length = n := by unfold mksString; simp
theorem mksString_succ (k : Int) (n : Nat) : mksString k (n + 1) = mksString k n ++ [mt (k + n)] := by unfold mksString; simp [List.range_succ]

set_option maxHeartbeats 1000000 in
theorem markStringS_any (base : Nat) (A : Option Addr) (n c : Nat) (xs : List Value) (k0 : Int) (w : World) (ho : w.ownsRow base 9 1 (.slice A n c) n xs) (hk0 : 0 ≤ k0) (hk1 : k0 ≤ 1000000000) (hb : n ≤ 4194304) :
    Calls Try.prog 44 #[.slice A n c, .int .i64 k0] w (Marked w base 9 1 A n c (k0 + n) ((mksString k0 n).flatMap sv)) := by
  have HO := Lib.hid ho
  clear ho
  go_enter Try.func44, Try.ntmps44
  go_wp2
  go_loopw [5, 1] (fun i v wr => ∃ (k : Nat) (xs : List Value), k ≤ n ∧ i = .int .i64 k ∧ v = .int .i64 (k0 + k) ∧ wr.ownsRow base 9 1 (.slice A n c) n xs ∧ xs.take k = (mksString k0 k).flatMap sv ∧ Gx (A.map (·.block)) w wr) (fun i _ _ => n - (intOf i).toNat)
  case atStart => exact ⟨0, _, Nat.zero_le _, rfl, by simp, HO.out, by simp [mksString], Gx.of_G (G.refl _) _⟩
  case round =>
    obtain ⟨k, xs, hk, rfl, rfl, ho, ht, hg⟩ := hrel
    by_cases hlt : k < n
    · rcases ho.2 with ⟨_, h0⟩ | ⟨g, cap, cur, hv, _⟩
      · omega
      · simp only [Value.slice.injEq] at hv
        obtain ⟨rfl, _, rfl⟩ := hv
        have O0 := Lib.hid ho
        have G0 := Lib.hid hg
        have HT := Lib.hid ht
        clear ho hg ht
        go_wp2_with fail
        refine (markText_any _ (by omega) (by omega) _).mono ?_
        rintro e w1 ⟨rfl, hg1⟩
        have O1 := Lib.hid (own_G O0.out hg1)
        have G1 := Lib.hid (Gx.trans G0.out (Gx.of_G hg1 (some g)))
        clear hg1
        obtain ⟨u, hu⟩ := Option.isSome_iff_exists.1 (own_there O1.out (o := k) (m := 1) (by omega) 0 (by omega)).1
        have hf := own_frozen_of O1.out k
        simp only [Nat.add_zero] at hu
        have hs := O1.out.stored k (.string (mt (k0 + k)))
        have HS := Lib.hid hs.1
        have HG2 := Lib.hid (Gx.trans G1.out hs.2)
        have HL := Lib.hid O1.out.1
        clear hs
        go_wp2
        go_roundw
        case rel =>
          refine ⟨k + 1, _, by omega, by go_num, by go_num, HS.out, ?_, HG2.out⟩
          have hl := HL.out
          rw [mksString_succ, List.flatMap_append, ← HT.out, List.take_set, List.take_succ_eq_append_getElem (by omega), List.set_append_right _ _ (by simp; omega)]
          simp [show k - min k xs.length = 0 by omega, sv]
        case measure => simp [intOf]; omega
    · have hkn : k = n := by omega
      have HT := Lib.hid ht
      have HG2 := Lib.hid hg
      have HO2 := Lib.hid ho
      clear ht hg ho
      go_wp2
      go_ret
      have h1 := HO2.out
      have h2 := HT.out
      rw [hkn, List.take_of_length_le (by have := h1.1; omega)] at h2
      exact ⟨ret_int (by rw [hkn]), HG2.out, by rw [← h2]; exact h1⟩

set_option maxHeartbeats 1000000 in
theorem heldStringS_any (A : Option Addr) (n c : Nat) (k0 : Int) (w : World) (hr : Rd w A 1 sv (mksString k0 n)) (hk0 : 0 ≤ k0) (hk1 : k0 ≤ 1000000000) (hb : n ≤ 4194304) :
    Calls Try.prog 45 #[.slice A n c, .int .i64 k0] w fun e w' => e = .returned (.int .i64 (k0 + n)) ∧ G w w' := by
  have HR := Lib.hid hr
  clear hr
  go_enter Try.func45, Try.ntmps45
  go_wp2
  go_loopw [5, 1] (fun i v wr => ∃ (k : Nat) (q : Int), k ≤ n ∧ i = .int .i64 k ∧ v = .int .i64 q ∧ q = k0 + k ∧ G w wr) (fun i _ _ => n - (intOf i).toNat)
  case atStart => exact ⟨0, k0, Nat.zero_le _, rfl, rfl, by simp, G.refl _⟩
  case round =>
    obtain ⟨k, q, hk, rfl, rfl, hq, hg⟩ := hrel
    have hq0 : 0 ≤ q := by omega
    have hq1 : q ≤ 100000000000 := by omega
    have HQ := Lib.hid hq
    have G0 := Lib.hid hg
    clear hq hg
    by_cases hlt : k < n
    · obtain ⟨b, o, x, rfl, hx, hc⟩ := (HR.out.G G0.out).str (k := k) (by rw [mksString_len]; exact hlt)
      obtain rfl : mt q = x := by rw [mksString_at k0 n k hlt, ← HQ.out] at hx; exact Option.some.inj hx
      clear hx
      have hlt2 : (k : Int) < (n : Int) := by omega
      have hk2 : 0 ≤ (k : Int) := by omega
      have gc := cellR hc
      have hqq : ((mt q).toList == (mt q).toList) = true := by simp
      go_wp2
      refine region_quiet_G (by kernel_rfl) (by kernel_rfl) ?_; (repeat (go_big_quiet_step (((go_at_call 66; exact quiet_G (markText_any _ (by omega) (by omega) _)))))); refine wpQuiet_nil ?_
      intro w1 hg1
      have G1 := Lib.hid (G0.out.trans hg1)
      clear hg1 gc hc hqq
      go_wp2
      go_roundw
      case rel => exact ⟨k + 1, _, by omega, by go_num, rfl, by have := HQ.out; omega, G1.out⟩
      case measure => simp [intOf]; omega
    · have hkn : k = n := by omega
      go_wp2
      go_ret
      exact ⟨ret_int (by rw [HQ.out, hkn]), G0.out⟩
end Go.Proofs.Ytdpmnmhblnjhiaa
