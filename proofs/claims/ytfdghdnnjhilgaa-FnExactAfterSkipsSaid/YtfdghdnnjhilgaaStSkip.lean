/-
  Walks: the law's own functions on Skip and on slices of Skip: copied, compared, measured, marked, held.
-/
import Derived.Test.YtfdghdnnjhilgaaText
import Derived.Deep.WholeRow
import Derived.Lib.SmallJoins
namespace Go.Proofs.Ytfdghdnnjhilgaa
open Go.RowKit

structure SSkip where
  From : Int
  Length : Int
  Loss : Int

def cSkip (x : SSkip) : List Value := [.int .i64 x.From, .int .i64 x.Length, .int .i64 x.Loss]
theorem cSkip_len (x : SSkip) : (cSkip x).length = 3 := rfl
/-- What is known of an element that came in. -/
def WfSkip (_x : SSkip) : Prop := True
/-- How many letters an element has. -/
def szSkip (_x : SSkip) : Int := 0
theorem szSkip_nonneg (x : SSkip) : 0 ≤ szSkip x := by unfold szSkip; omega
/-- The head of a slice and an element's cells. -/
theorem Rd.Skip {w : World} {A : Option Addr} {L : List SSkip} (h : Rd w A 3 cSkip L) {k : Nat} (hk : k < L.length) :
    ∃ b o x, A = some ⟨b, o, none⟩ ∧ L[k]? = some x ∧ w.cell? ⟨b, o + k * 3, none⟩ = some (.int .i64 x.From) ∧ w.cell? ⟨b, o + k * 3 + 1, none⟩ = some (.int .i64 x.Length) ∧ w.cell? ⟨b, o + k * 3 + 2, none⟩ = some (.int .i64 x.Loss) := by
  obtain ⟨b, o, x, e, hx, hc⟩ := h.at_ hk
  refine ⟨b, o, x, e, hx, ?_, ?_, ?_⟩
  · have := hc 0 _ rfl; simpa [← Nat.add_assoc] using this
  · have := hc 1 _ rfl; simpa [← Nat.add_assoc] using this
  · have := hc 2 _ rfl; simpa [← Nat.add_assoc] using this

theorem infoSkip : (Try.prog.info? 77).map (fun i => (i.zero, i.size, i.bytes)) = some (some (.agg #[.int .i64 0, .int .i64 0, .int .i64 0]), 3, 24) := by kernel_rfl

set_option maxHeartbeats 1000000 in
theorem toSkip_any (x : SSkip) (w : World) :
    Calls Try.prog 59 #[.agg #[.int .i64 x.From, .int .i64 x.Length, .int .i64 x.Loss]] w fun e w' => e = .returned (.agg #[.int .i64 x.From, .int .i64 x.Length, .int .i64 x.Loss]) ∧ G w w' := by
  go_enter Try.func59, Try.ntmps59
  go_wp2
  exact bodyPost_ret (v := .agg #[.int .i64 x.From, .int .i64 x.Length, .int .i64 x.Loss]) (by simp [results, Try.results59, go_sem]) rfl ⟨rfl, (((G.refl _).alloc _).alloc _).alloc _⟩

theorem oneSkip (x : SSkip) : (#[.int .i64 x.From, .int .i64 x.Length, .int .i64 x.Loss] : Array Value).all (·.oneCell') = true := all_oneCell_toArray (cs := cSkip x) (by intro v hv; simp only [cSkip, List.mem_cons, List.not_mem_nil, or_false] at hv; rcases hv with rfl | rfl | rfl <;> rfl)
theorem flatSkip_succ {L : List SSkip} {k : Nat} {x : SSkip} (h : L[k]? = some x) : (L.take (k + 1)).flatMap cSkip = (L.take k).flatMap cSkip ++ cSkip x := by
  rw [take_snoc h, List.flatMap_append]; simp

set_option maxHeartbeats 1000000 in
theorem toSkipS_any (A : Option Addr) (n c : Nat) (L : List SSkip) (w : World) (hr : Rd w A 3 cSkip L) (hn : L.length = n) (hb : n ≤ 1048576) :
    Calls Try.prog 21 #[.slice A n c] w (Made w 77 3 n (L.flatMap cSkip)) := by
  obtain ⟨i0, hi, hz0, hz1, hz2⟩ := info_parts infoSkip
  have Hn := Lib.hid hn
  have HR := Lib.hid hr
  clear hn hr
  go_enter Try.func21, Try.ntmps21
  go_wp2_with (refine wpList_make_full _ rfl _ _ 32 rfl w.heap.size 77 i0 (.agg #[.int .i64 0, .int .i64 0, .int .i64 0]) 3 Try.underlying32 hi hz0 hz1 .i64 .i64 _ _ n rfl rfl rfl rfl (by rw [hz2]; omega) (by unfold maxLen; omega) (Nat.le_refl _) ?_; intro w1 hown hgrow)
  have HO := Lib.hid hown
  have HG := Lib.hid ((G.refl w).grown hgrow (by simp))
  clear hown hgrow hi hz0 hz1 hz2
  go_loopw [4] (fun i wr => ∃ (k : Nat) (xs : List Value), k ≤ n ∧ i = .int .i64 k ∧ wr.ownsRow w.heap.size 77 3 (.slice (some ⟨w.heap.size, 0, none⟩) n n) n xs ∧ xs.take (k * 3) = (L.take k).flatMap cSkip ∧ G w wr) (fun i _ => n - (intOf i).toNat)
  case atStart => exact ⟨0, _, Nat.zero_le _, rfl, HO.out, by simp, HG.out⟩
  case round =>
    obtain ⟨k, xs, hk, rfl, ho, ht, hg⟩ := hrel
    by_cases hlt : k < n
    · obtain ⟨b, o, x, rfl, hx, hc0, hc1, hc2⟩ := (HR.out.G hg).Skip (k := k) (by rw [Hn.out]; exact hlt)
      have HO2 := Lib.hid ho
      have HX := Lib.hid hx
      have HT := Lib.hid ht
      have HG2 := Lib.hid hg
      clear hx ht hg ho
      go_wp2_with (first | (go_at_call 59; refine (toSkip_any _ _).mono ?_; rintro e w2 ⟨rfl, hg2⟩; have HO3 := Lib.hid (own_G HO2.out hg2); have HG3 := Lib.hid (HG2.out.trans hg2); clear hg2) | (refine wpList_store_mid rfl 77 (.tmp 21) (.tmp 20) rfl w.heap.size (k * 3) #[.int .i64 x.From, .int .i64 x.Length, .int .i64 x.Loss] rfl rfl (own_there (o := k * 3) (m := 3) HO3.out (by omega)) (by kernel_rfl) (oneSkip x) ?_; have HO4 := HO3; clear HO3))
      have HS := Lib.hid (own_setCells (cSkip x) (k * 3) HO4.out (by rw [cSkip_len]; omega))
      go_roundw
      case rel => exact ⟨k + 1, _, by omega, by go_num, HS.out.1, by rw [take_put HO4.out.1 hlt HT.out (cSkip_len x), flatSkip_succ HX.out], HG3.out.setCells (Nat.le_refl _) _⟩
      case measure => simp [intOf]; omega
    · have hkn : k = n := by omega
      have HT := Lib.hid ht
      have HG2 := Lib.hid hg
      have HO2 := Lib.hid ho
      clear ht hg ho
      go_wp2
      go_ret
      refine ⟨w.heap.size, rfl, Nat.le_refl _, (HO2.out.lt _ rfl).2, HG2.out, ?_⟩
      have h1 := HO2.out
      have h2 := HT.out
      rw [hkn, List.take_of_length_le (by have := h1.1; omega), List.take_of_length_le (by have := Hn.out; omega)] at h2
      rw [← h2]
      exact h1

set_option maxHeartbeats 1000000 in
theorem eqSkip_same (x : SSkip) (w : World) :
    Calls Try.prog 60 #[.agg #[.int .i64 x.From, .int .i64 x.Length, .int .i64 x.Loss], .agg #[.int .i64 x.From, .int .i64 x.Length, .int .i64 x.Loss]] w fun e w' => e = .returned (.bool true) ∧ G w w' := by
  go_enter Try.func60, Try.ntmps60
  go_wp2
  go_ret
  exact ⟨rfl, ((G.refl _).alloc _).alloc _⟩

set_option maxHeartbeats 1000000 in
theorem eqSkipS_same (A B : Option Addr) (n c d : Nat) (L : List SSkip) (w : World) (h1 : Rd w A 3 cSkip L) (h2 : Rd w B 3 cSkip L) (hn : L.length = n) (hb : n ≤ 4194304) :
    Calls Try.prog 23 #[.slice A n c, .slice B n d] w fun e w' => e = .returned (.bool true) ∧ G w w' := by
  have Hn := Lib.hid hn
  have H1 := Lib.hid h1
  have H2 := Lib.hid h2
  clear hn h1 h2
  go_enter Try.func23, Try.ntmps23
  go_wp2
  go_loopw [5] (fun i wr => ∃ (k : Nat), k ≤ n ∧ i = .int .i64 k ∧ G w wr) (fun i _ => n - (intOf i).toNat)
  case atStart => exact ⟨0, Nat.zero_le _, rfl, G.refl _⟩
  case round =>
    obtain ⟨k, hk, rfl, hg⟩ := hrel
    have HG := Lib.hid hg
    clear hg
    by_cases hlt : k < n
    · obtain ⟨b, o, x, rfl, hx, hc0, hc1, hc2⟩ := (H1.out.G HG.out).Skip (k := k) (by rw [Hn.out]; exact hlt)
      obtain ⟨b2, o2, x2, rfl, hx2, hd0, hd1, hd2⟩ := (H2.out.G HG.out).Skip (k := k) (by rw [Hn.out]; exact hlt)
      obtain rfl : x = x2 := Option.some.inj (hx.symm.trans hx2)
      clear hx hx2
      have gc0 := cellR hc0; have gd0 := cellR hd0; have gc1 := cellR hc1; have gd1 := cellR hd1; have gc2 := cellR hc2; have gd2 := cellR hd2
      clear hc0 hd0 hc1 hd1 hc2 hd2
      have hlt2 : (k : Int) < (n : Int) := by omega
      have hk0 : 0 ≤ (k : Int) := by omega
      go_wp2
      refine region_quiet_G (by kernel_rfl) (by kernel_rfl) ?_; (repeat (go_big_quiet_step (((go_at_call 60; exact quiet_G (eqSkip_same _ _)))))); refine wpQuiet_nil ?_
      intro w2 hg2
      have HG2 := Lib.hid (HG.out.trans hg2)
      clear hg2 gc0 gd0 gc1 gd1 gc2 gd2
      go_wp2
      go_roundw
      case rel => exact ⟨k + 1, by omega, by go_num, HG2.out⟩
      case measure => simp [intOf]; omega
    · go_wp2
      go_ret
      exact ⟨rfl, HG.out⟩

set_option maxHeartbeats 400000 in
theorem szSkipS_any (A : Option Addr) (n c : Nat) (left : Int) (w : World) (hm : n ≤ 9223372036854775807) (h0 : 0 ≤ left) (h1 : left ≤ 4194304) :
    Calls Try.prog 19 #[.slice A n c, .int .i64 left] w fun e w' => e = .returned (.int .i64 (szR (left - n))) ∧ G w w' := by
  by_cases q : left - n < 0
  · have H := Lib.hid (szR_neg q)
    go_enter Try.func19, Try.ntmps19
    go_wp2
    go_ret
    exact ⟨ret_int H.out.symm, G.refl _⟩
  · have H := Lib.hid (szR_pos (y := left - n) (by omega))
    go_enter Try.func19, Try.ntmps19
    go_wp2
    go_ret
    exact ⟨ret_int H.out.symm, G.refl _⟩
end Go.Proofs.Ytfdghdnnjhilgaa
