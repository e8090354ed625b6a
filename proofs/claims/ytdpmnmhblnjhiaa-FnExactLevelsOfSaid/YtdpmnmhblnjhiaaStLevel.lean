/-
  Walks: the law's own functions on Level and on slices of Level: copied, compared, measured, marked, held.
-/
import Derived.Test.YtdpmnmhblnjhiaaText
import Derived.Deep.WholeRow
import Derived.Lib.SmallJoins
namespace Go.Proofs.Ytdpmnmhblnjhiaa
open Go.RowKit

structure SLevel where
  Target : ByteArray
  Value : Int

def cLevel (x : SLevel) : List Value := [.string x.Target, .int .i64 x.Value]
theorem cLevel_len (x : SLevel) : (cLevel x).length = 2 := rfl
/-- What is known of an element that came in. -/
def WfLevel (x : SLevel) : Prop := x.Target.size ≤ maxLen
/-- How many letters an element has. -/
def szLevel (x : SLevel) : Int := (x.Target.size : Int)
theorem szLevel_nonneg (x : SLevel) : 0 ≤ szLevel x := by unfold szLevel; omega
/-- The head of a slice and an element's cells. -/
theorem Rd.Level {w : World} {A : Option Addr} {L : List SLevel} (h : Rd w A 2 cLevel L) {k : Nat} (hk : k < L.length) :
    ∃ b o x, A = some ⟨b, o, none⟩ ∧ L[k]? = some x ∧ w.cell? ⟨b, o + k * 2, none⟩ = some (.string x.Target) ∧ w.cell? ⟨b, o + k * 2 + 1, none⟩ = some (.int .i64 x.Value) := by
  obtain ⟨b, o, x, e, hx, hc⟩ := h.at_ hk
  refine ⟨b, o, x, e, hx, ?_, ?_⟩
  · have := hc 0 _ rfl; simpa [← Nat.add_assoc] using this
  · have := hc 1 _ rfl; simpa [← Nat.add_assoc] using this

theorem infoLevel : (Try.prog.info? 84).map (fun i => (i.zero, i.size, i.bytes)) = some (some (.agg #[.string ⟨#[]⟩, .int .i64 0]), 2, 24) := by kernel_rfl

theorem oneLevel (x : SLevel) : (#[.string x.Target, .int .i64 x.Value] : Array Value).all (·.oneCell') = true := all_oneCell_toArray (cs := cLevel x) (by intro v hv; simp only [cLevel, List.mem_cons, List.not_mem_nil, or_false] at hv; rcases hv with rfl | rfl <;> rfl)
theorem flatLevel_succ {L : List SLevel} {k : Nat} {x : SLevel} (h : L[k]? = some x) : (L.take (k + 1)).flatMap cLevel = (L.take k).flatMap cLevel ++ cLevel x := by
  rw [take_snoc h, List.flatMap_append]; simp

set_option maxHeartbeats 1000000 in
theorem eqLevel_same (x : SLevel) (w : World) :
    Calls Try.prog 76 #[.agg #[.string x.Target, .int .i64 x.Value], .agg #[.string x.Target, .int .i64 x.Value]] w fun e w' => e = .returned (.bool true) ∧ G w w' := by
  go_enter Try.func76, Try.ntmps76
  go_wp2
  go_ret
  exact ⟨rfl, ((G.refl _).alloc _).alloc _⟩

set_option maxHeartbeats 1000000 in
theorem eqLevelS_same (A B : Option Addr) (n c d : Nat) (L : List SLevel) (w : World) (h1 : Rd w A 2 cLevel L) (h2 : Rd w B 2 cLevel L) (hn : L.length = n) (hb : n ≤ 4194304) :
    Calls Try.prog 48 #[.slice A n c, .slice B n d] w fun e w' => e = .returned (.bool true) ∧ G w w' := by
  have Hn := Lib.hid hn
  have H1 := Lib.hid h1
  have H2 := Lib.hid h2
  clear hn h1 h2
  go_enter Try.func48, Try.ntmps48
  go_wp2
  go_loopw [5] (fun i wr => ∃ (k : Nat), k ≤ n ∧ i = .int .i64 k ∧ G w wr) (fun i _ => n - (intOf i).toNat)
  case atStart => exact ⟨0, Nat.zero_le _, rfl, G.refl _⟩
  case round =>
    obtain ⟨k, hk, rfl, hg⟩ := hrel
    have HG := Lib.hid hg
    clear hg
    by_cases hlt : k < n
    · obtain ⟨b, o, x, rfl, hx, hc0, hc1⟩ := (H1.out.G HG.out).Level (k := k) (by rw [Hn.out]; exact hlt)
      obtain ⟨b2, o2, x2, rfl, hx2, hd0, hd1⟩ := (H2.out.G HG.out).Level (k := k) (by rw [Hn.out]; exact hlt)
      obtain rfl : x = x2 := Option.some.inj (hx.symm.trans hx2)
      clear hx hx2
      have gc0 := cellR hc0; have gd0 := cellR hd0; have gc1 := cellR hc1; have gd1 := cellR hd1
      clear hc0 hd0 hc1 hd1
      have hlt2 : (k : Int) < (n : Int) := by omega
      have hk0 : 0 ≤ (k : Int) := by omega
      go_wp2
      refine region_quiet_G (by kernel_rfl) (by kernel_rfl) ?_; (repeat (go_big_quiet_step (((go_at_call 76; exact quiet_G (eqLevel_same _ _)))))); refine wpQuiet_nil ?_
      intro w2 hg2
      have HG2 := Lib.hid (HG.out.trans hg2)
      clear hg2 gc0 gd0 gc1 gd1
      go_wp2
      go_roundw
      case rel => exact ⟨k + 1, by omega, by go_num, HG2.out⟩
      case measure => simp [intOf]; omega
    · go_wp2
      go_ret
      exact ⟨rfl, HG.out⟩

/-- The marked element that begins at the number q. -/
def mkLevel (q : Int) : SLevel := ⟨mt (q), q + 1⟩
def mksLevel (q : Int) (n : Nat) : List SLevel := (List.range n).map fun i => mkLevel (q + 2 * (i : Nat))
theorem mksLevel_at (q : Int) (n i : Nat) (h : i < n) : (mksLevel q n)[i]? = some (mkLevel (q + 2 * i)) := by unfold mksLevel; simp [h]
theorem mksLevel_len (q : Int) (n : Nat) : (mksLevel q n).length = n := by unfold mksLevel; simp
theorem mksLevel_succ (q : Int) (n : Nat) : (mksLevel q (n + 1)).flatMap cLevel = (mksLevel q n).flatMap cLevel ++ cLevel (mkLevel (q + 2 * n)) := by unfold mksLevel; simp [List.range_succ, List.flatMap_append]

set_option maxHeartbeats 2000000 in
theorem markLevelS_any (base : Nat) (A : Option Addr) (n c : Nat) (xs : List Value) (k0 : Int) (w : World) (ho : w.ownsRow base 84 2 (.slice A n c) n xs) (hk0 : 0 ≤ k0) (hk1 : k0 ≤ 1000000) (hb : n ≤ 1048576) :
    Calls Try.prog 49 #[.slice A n c, .int .i64 k0] w (Marked w base 84 2 A n c (k0 + 2 * n) ((mksLevel k0 n).flatMap cLevel)) := by
  have HO := Lib.hid ho
  clear ho
  go_enter Try.func49, Try.ntmps49
  go_wp2
  go_loopw [5, 1] (fun i v wr => ∃ (k : Nat) (q : Int) (xs : List Value), k ≤ n ∧ i = .int .i64 k ∧ v = .int .i64 q ∧ q = k0 + 2 * k ∧ wr.ownsRow base 84 2 (.slice A n c) n xs ∧ xs.take (k * 2) = (mksLevel k0 k).flatMap cLevel ∧ Gx (A.map (·.block)) w wr) (fun i _ _ => n - (intOf i).toNat)
  case atStart => exact ⟨0, k0, _, Nat.zero_le _, rfl, rfl, by simp, HO.out, by simp [mksLevel], Gx.of_G (G.refl _) _⟩
  case round =>
    obtain ⟨k, q, xs, hk, rfl, rfl, hq, ho, ht, hg⟩ := hrel
    have hq0 : 0 ≤ q := by omega
    have hq1 : q ≤ 100000000 := by omega
    have HQ := Lib.hid hq
    clear hq
    by_cases hlt : k < n
    · rcases ho.2 with ⟨_, h0⟩ | ⟨g, cap, cur, hv, _⟩
      · omega
      · simp only [Value.slice.injEq] at hv
        obtain ⟨rfl, _, rfl⟩ := hv
        have O0 := Lib.hid ho
        have G0 := Lib.hid hg
        have HT := Lib.hid ht
        clear ho hg ht
        go_wp2_with fail
        refine (markText_any _ (by omega) (by omega) _).mono ?_
        rintro e w1 ⟨rfl, hg1⟩
        have O1 := Lib.hid (own_G O0.out hg1)
        have G1 := Lib.hid (Gx.trans G0.out (Gx.of_G hg1 (some g)))
        clear hg1
        obtain ⟨u0, hu0⟩ := Option.isSome_iff_exists.1 (own_there O1.out (o := k * 2) (m := 2) (by omega) 0 (by omega)).1
        have hf0 := own_frozen_of O1.out (k * 2)
        obtain ⟨u1, hu1⟩ := Option.isSome_iff_exists.1 (own_there O1.out (o := k * 2) (m := 2) (by omega) 1 (by omega)).1
        have hf1 := own_frozen_of O1.out (k * 2 + 1)
        simp only [Nat.add_zero] at hu0
        go_wp2
        have Z0 := Lib.hid (O1.out.stored (k * 2) (.string (mt (q))))
        have Y0 := Lib.hid Z0.out.2
        have Z1 := Lib.hid (Z0.out.1.stored (k * 2 + 1) (.int .i64 (q + 1)))
        have Y1 := Lib.hid (Gx.trans Y0.out Z1.out.2)
        go_roundw
        case rel =>
          refine ⟨k + 1, _, _, by omega, by go_num, rfl, by have := HQ.out; omega, Z1.out.1, ?_, Gx.trans G1.out Y1.out⟩
          have e := take_setL (cs := cLevel (mkLevel q)) O0.out.1 hlt HT.out (cLevel_len _)
          rw [mksLevel_succ, ← HQ.out]
          exact e
        case measure => simp [intOf]; omega
    · have hkn : k = n := by omega
      have HT := Lib.hid ht
      have HG2 := Lib.hid hg
      have HO2 := Lib.hid ho
      clear ht hg ho
      go_wp2
      go_ret
      have h1 := HO2.out
      have h2 := HT.out
      rw [hkn, List.take_of_length_le (by have := h1.1; omega)] at h2
      exact ⟨ret_int (by rw [HQ.out, hkn]), HG2.out, by rw [← h2]; exact h1⟩

set_option maxHeartbeats 2000000 in
theorem heldLevelS_any (A : Option Addr) (n c : Nat) (k0 : Int) (w : World) (hr : Rd w A 2 cLevel (mksLevel k0 n)) (hk0 : 0 ≤ k0) (hk1 : k0 ≤ 1000000) (hb : n ≤ 1048576) :
    Calls Try.prog 50 #[.slice A n c, .int .i64 k0] w fun e w' => e = .returned (.int .i64 (k0 + 2 * n)) ∧ G w w' := by
  have HR := Lib.hid hr
  clear hr
  go_enter Try.func50, Try.ntmps50
  go_wp2
  go_loopw [5, 1] (fun i v wr => ∃ (k : Nat) (q : Int), k ≤ n ∧ i = .int .i64 k ∧ v = .int .i64 q ∧ q = k0 + 2 * k ∧ G w wr) (fun i _ _ => n - (intOf i).toNat)
  case atStart => exact ⟨0, k0, Nat.zero_le _, rfl, rfl, by simp, G.refl _⟩
  case round =>
    obtain ⟨k, q, hk, rfl, rfl, hq, hg⟩ := hrel
    have hq0 : 0 ≤ q := by omega
    have hq1 : q ≤ 100000000 := by omega
    have HQ := Lib.hid hq
    have G0 := Lib.hid hg
    clear hq hg
    by_cases hlt : k < n
    · obtain ⟨b, o, x, rfl, hx, hc0, hc1⟩ := (HR.out.G G0.out).Level (k := k) (by rw [mksLevel_len]; exact hlt)
      have hxq : x = mkLevel q := by rw [mksLevel_at k0 n k hlt, ← HQ.out] at hx; exact (Option.some.inj hx).symm
      rw [show x.Target = mt (q) by rw [hxq]; rfl] at hc0; rw [show x.Value = q + 1 by rw [hxq]; rfl] at hc1
      clear hx hxq
      have hlt2 : (k : Int) < (n : Int) := by omega
      have hk2 : 0 ≤ (k : Int) := by omega
      have gc0 := cellR hc0
      go_wp2
      refine region_quiet_G (by kernel_rfl) (by kernel_rfl) ?_; (repeat (go_big_quiet_step (((go_at_call 66; exact quiet_G (markText_any _ (by omega) (by omega) _)))))); refine wpQuiet_nil ?_
      intro w1 hg1
      have G1 := Lib.hid (G0.out.trans hg1)
      replace hc1 := hg1.cell hc1
      clear hg1 gc0 hc0
      go_wp2
      go_roundw
      case rel => exact ⟨k + 1, _, by omega, by go_num, rfl, by have := HQ.out; omega, G1.out⟩
      case measure => simp [intOf]; omega
    · have hkn : k = n := by omega
      go_wp2
      go_ret
      exact ⟨ret_int (by rw [HQ.out, hkn]), G0.out⟩
end Go.Proofs.Ytdpmnmhblnjhiaa
