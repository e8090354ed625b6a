/-
  Walks: the law's own functions on slices of slices of integers.
-/
import Derived.Test.YtnnhffehboknnaaDoorRowMem
import Derived.Test.YtnnhffehboknnaaDoorIntsG
import Derived.Test.YtnnhffehboknnaaDoorText
namespace Go.Proofs.YtnnhffehboknnaaDoor
open Go.RowKit

theorem infoRow : (Tryd.prog.info? 36).map (fun i => (i.zero, i.size, i.bytes)) = some (some (.slice none 0 0), 1, 24) := by kernel_rfl

set_option maxHeartbeats 1000000 in
theorem eqInt64SS_same (A B : Option Addr) (n c d : Nat) (M : List (List Int)) (w : World) (h1 : RdR w A M) (h2 : RdR w B M) (hn : M.length = n) (hb : n ≤ 4194304) (hrow : ∀ r ∈ M, r.length ≤ 4194304) :
    Calls Tryd.prog 22 #[.slice A n c, .slice B n d] w fun e w' => e = .returned (.bool true) ∧ G w w' := by
  have Hn := Lib.hid hn
  have H1 := Lib.hid h1
  have H2 := Lib.hid h2
  have HW := Lib.hid hrow
  clear hn h1 h2 hrow
  go_enter Tryd.func22, Tryd.ntmps22
  go_wp2
  go_loopw [5] (fun i wr => ∃ (k : Nat), k ≤ n ∧ i = .int .i64 k ∧ G w wr) (fun i _ => n - (intOf i).toNat)
  case atStart => exact ⟨0, Nat.zero_le _, rfl, G.refl _⟩
  case round =>
    obtain ⟨k, hk, rfl, hg⟩ := hrel
    have G0 := Lib.hid hg
    clear hg
    by_cases hlt : k < n
    · obtain ⟨b, o, r, Ai, ci, rfl, hx, _, hc, hr⟩ := (H1.out.g G0.out).at_ (k := k) (by rw [Hn.out]; exact hlt)
      obtain ⟨b2, o2, r2, Bi, di, rfl, hx2, _, hc2, hr2⟩ := (H2.out.g G0.out).at_ (k := k) (by rw [Hn.out]; exact hlt)
      obtain rfl : r = r2 := Option.some.inj (hx.symm.trans hx2)
      have hrb := HW.out r (List.mem_of_getElem? hx)
      have gc := cellR hc
      have gc2 := cellR hc2
      have KE := Lib.hid (fun (D : Nat) (os : Array Obj) => eqInt64S_G Ai Bi r.length ci di r (Sort.grow (redrawn wr D) os) (rdR hr D os) (rdR hr2 D os) rfl hrb)
      clear hx hx2 hc hc2 hr hr2
      have hlt2 : (k : Int) < (n : Int) := by omega
      have hk0 : 0 ≤ (k : Int) := by omega
      go_wp2
      refine region_quiet_G (by kernel_rfl) (by kernel_rfl) ?_; (repeat (go_big_quiet_step (((go_at_call 20; exact quiet_G (KE.out _ _)))))); refine wpQuiet_nil ?_
      intro w1 hg1
      have G1 := Lib.hid (G0.out.trans hg1)
      clear hg1 gc gc2
      go_wp2
      go_roundw
      case rel => exact ⟨k + 1, by omega, by go_num, G1.out⟩
      case measure => simp [intOf]; omega
    · go_wp2
      go_ret
      exact ⟨rfl, G0.out⟩

set_option maxHeartbeats 1000000 in
theorem markInt64SS_any (B hi : Nat) (A : Option Addr) (n c : Nat) (hs : List Value) (M : List (List Int)) (k0 : Int) (w : World) (ho : OwnR w B 36 2 (.slice A n c) hs M) (hn : M.length = n) (hin : InR B hi (.slice A n c) hs) (hk0 : 0 ≤ k0) (hk1 : k0 ≤ 1000000000) (hsum : sumN (M.map List.length) ≤ 4194304) (hb : n ≤ 4194304) :
    Calls Tryd.prog 24 #[.slice A n c, .int .i64 k0] w fun e w' => e = .returned (.int .i64 (k0 + sumN (M.map List.length))) ∧ Gi B hi w w' ∧ OwnR w' B 36 2 (.slice A n c) hs (mkR k0 (M.map List.length)) := by
  have HO := Lib.hid ho
  have Hn := Lib.hid hn
  have HS := Lib.hid hsum
  have HIN := Lib.hid hin
  clear ho hn hsum hin
  go_enter Tryd.func24, Tryd.ntmps24
  go_wp2
  go_loopw [5, 1] (fun i v wr => ∃ (k : Nat) (q : Int), k ≤ n ∧ i = .int .i64 k ∧ v = .int .i64 q ∧ Hid (q = k0 + sumN ((M.map List.length).take k)) ∧ Hid (OwnR wr B 36 2 (.slice A n c) hs (mkR k0 ((M.map List.length).take k) ++ M.drop k)) ∧ Hid (Gi B hi w wr)) (fun i _ _ => n - (intOf i).toNat)
  case atStart => exact ⟨0, k0, Nat.zero_le _, rfl, rfl, Lib.hid (by simp [sumN]), Lib.hid (by simpa [mkR] using HO.out), Lib.hid (Gi.refl _)⟩
  case round =>
    obtain ⟨k, q, hk, rfl, rfl, HQ, H0, G0⟩ := hrel
    have hq0 : 0 ≤ q := by have := HQ.out; omega
    have hq1 : q ≤ 1004194304 := by have := HQ.out; have := sumN_take (M.map List.length) k; have := HS.out; omega
    by_cases hlt : k < n
    · obtain ⟨r, hr⟩ : ∃ r, M[k]? = some r := ⟨_, List.getElem?_eq_getElem (by rw [Hn.out]; exact hlt)⟩
      have hrl : r.length ≤ 4194304 := by have := sumN_mem (ns := M.map List.length) (n := r.length) (List.mem_map_of_mem (List.mem_of_getElem? hr)); have := HS.out; omega
      have hpre : (mkR k0 ((M.map List.length).take k)).length = k := by rw [mkR_len, List.length_take, List.length_map, Hn.out]; omega
      have hrk : (mkR k0 ((M.map List.length).take k) ++ M.drop k)[k]? = some r := by rw [List.getElem?_append_right (by rw [hpre]; exact Nat.le_refl _), hpre, Nat.sub_self, List.getElem?_drop, Nat.add_zero]; exact hr
      obtain ⟨h, hh⟩ : ∃ h, hs[k]? = some h := ⟨_, List.getElem?_eq_getElem (by rw [HO.out.len, Hn.out]; exact hlt)⟩
      have hrow := H0.out.row k h r hh hrk
      obtain ⟨Ak, ck, rfl, _⟩ := own_slice hrow
      have HR := Lib.hid hrow
      have HH := Lib.hid hh
      have HRK := Lib.hid hrk
      have HRr := Lib.hid hr
      have hown := H0.out.own
      rw [show (mkR k0 ((M.map List.length).take k) ++ M.drop k).length = n by rw [List.length_append, hpre, List.length_drop, Hn.out]; omega] at hown
      rcases hown.2 with ⟨hv, h0⟩ | ⟨g, cap, cur, hv, _⟩
      · omega
      · simp only [Value.slice.injEq] at hv
        obtain ⟨rfl, _, rfl⟩ := hv
        have hcell := own_cellAt_mid hown hh
        clear hpre hrk hh hrow hr hown
        go_wp2_with fail
        refine (markInt64S_any B Ak r.length ck _ q _ HR.out (by omega) (by omega) (by omega)).mono ?_
        rintro e w1 ⟨rfl, hg1, ho1⟩
        have HN := Lib.hid (show q + (r.length : Int) = k0 + sumN ((M.map List.length).take (k + 1)) by
          rw [HQ.out, take_snoc (x := r.length) (by rw [List.getElem?_map, HRr.out]; rfl), sumN_append]
          simp only [sumN, List.foldr_cons, List.foldr_nil]
          omega)
        have H1 := Lib.hid (show OwnR w1 B 36 2 _ hs _ from H0.out.turned HH.out (upFrom_len q r.length) (fun r0 e => by rw [HRK.out] at e; cases e; rfl) hg1 ho1)
        rw [HQ.out, mkR_step HRr.out] at H1
        have G1 := Lib.hid (G0.out.trans (Gi.of_Gx (lo := B) (hi := hi) hg1 (fun y hy => by
          exact HIN.out.2 k _ y HH.out (by cases Ak with
            | none => simp at hy
            | some a => simpa [Value.ownBlock] using hy))))
        clear hg1 ho1 hcell
        dsimp only
        go_wp2
        go_roundw
        case rel => exact ⟨k + 1, _, by omega, by go_num, rfl, HN, H1, G1⟩
        case measure => simp [intOf]; omega
    · have hkn : k = n := by omega
      have H1 := H0
      rw [List.take_of_length_le (by rw [List.length_map, Hn.out]; omega), List.drop_eq_nil_of_le (by rw [Hn.out]; omega), List.append_nil] at H1
      have HN := Lib.hid (show q = k0 + sumN (M.map List.length) by rw [HQ.out, List.take_of_length_le (by rw [List.length_map, Hn.out]; omega)])
      go_wp2
      go_ret
      exact ⟨ret_int HN.out, G0.out, H1.out⟩

/-- A row's own size. -/
def szRow (r : List Int) : Int := r.length
theorem szRow_nonneg (r : List Int) : 0 ≤ szRow r := by unfold szRow; omega
theorem tot_sumN (M : List (List Int)) : tot szRow M = (sumN (M.map List.length) : Int) := by
  induction M with
  | nil => rfl
  | cons r M ih =>
    have h := tot_append szRow [r] M
    simp only [List.singleton_append] at h
    rw [h, ih]
    simp [tot, szRow, sumN]
end Go.Proofs.YtnnhffehboknnaaDoor
