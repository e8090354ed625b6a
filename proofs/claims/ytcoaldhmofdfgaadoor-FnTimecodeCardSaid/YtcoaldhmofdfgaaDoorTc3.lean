/-
  Walks: the text of a time code and the code of a text.
-/
import Derived.Test.YtcoaldhmofdfgaaDoorTc
namespace Go.Proofs.YtcoaldhmofdfgaaDoor
open Go.RowKit

def twoB (n : Int) : ByteArray := mkB (twoL n)
def cdB (c : SCode) : ByteArray := mkB (cdL c)
def strOf : Value → ByteArray
  | .string s => s
  | _ => ⟨#[]⟩
theorem twoB_size (n : Int) : (twoB n).size = 2 := rfl
theorem dec_two {n : Int} (h0 : 0 ≤ n) (h1 : n < 100) : ((dec n).size = 1 ∧ ⟨#[48]⟩ ++ dec n = twoB n) ∨ (dec n = twoB n) := by
  by_cases h : n < 10
  · left
    have e := two_small h0 h
    refine ⟨?_, ?_⟩
    · have k : (twoL n).length = 2 := rfl
      rw [e] at k
      simp only [List.length_cons] at k
      have : (dec n).size = (Lib.itoa n).length := rfl
      omega
    · unfold twoB
      rw [e, show dec n = mkB (Lib.itoa n) from rfl, show (⟨#[48]⟩ : ByteArray) = mkB [48] from rfl, mkB_append]
      rfl
  · right
    unfold twoB
    rw [two_big (by omega) h1]
    rfl
theorem cdB_app (c : SCode) (h0 : 10 ≤ c.Rate) (h1 : c.Rate < 100) : cdB c = twoB c.Hours ++ ⟨#[58]⟩ ++ twoB c.Minutes ++ ⟨#[58]⟩ ++ twoB c.Seconds ++ ⟨#[58]⟩ ++ twoB c.Frames ++ ⟨#[64]⟩ ++ dec c.Rate := by
  have e : dec c.Rate = twoB c.Rate := by
    unfold twoB
    rw [two_big h0 h1]
    rfl
  rw [e]
  unfold twoB cdB cdL
  rw [show (⟨#[58]⟩ : ByteArray) = mkB [58] from rfl, show (⟨#[64]⟩ : ByteArray) = mkB [64] from rfl]
  simp only [mkB_append, List.append_assoc, List.cons_append, List.nil_append]
theorem cdB_ext (c : SCode) {i : Nat} {n : Int} (h : (partN c)[i]? = some n) : (cdB c).extract (3 * i) (3 * i + 2) = twoB n := by
  rw [extract_mkB]
  unfold cdB twoB
  rw [mkB_data, cdL_part c h]
theorem cdB_size (c : SCode) : (cdB c).size = 14 := rfl

set_option maxHeartbeats 2000000 in
theorem padded_any (n : Int) (h0 : 0 ≤ n) (h1 : n < 100) (w : World) (ht : TabP w) :
    Calls Tryd.prog 51 #[.int .i64 n, .int .i64 2] w fun e w' => e = .returned (.string (twoB n)) ∧ G w w' := by
  have KD := Lib.hid (Decimal_any n (by omega) (by omega) w ht)
  have H2 := Lib.hid (dec_two h0 h1)
  have hsz := twoB_size n
  obtain ⟨T, HT⟩ : ∃ T, Hid (twoB n = T) := ⟨_, rfl⟩
  obtain ⟨D, HD⟩ : ∃ D, Hid (dec n = D) := ⟨_, rfl⟩
  rw [HD.out] at KD
  rw [HT.out] at hsz ⊢
  rw [HD.out, HT.out] at H2
  have s48 : (ByteArray.mk #[48]).size = 1 := rfl
  clear h0 h1 ht HT HD
  go_enter Tryd.func51, Tryd.ntmps51
  go_wp2_with (go_at_call 34; (with_reducible refine KD.out.mono ?_); rintro e w1 ⟨rfl, g1⟩; have G1 := Lib.hid g1; clear g1)
  go_loopw [5] (fun v wr => ∃ s : ByteArray, v = .string s ∧ (s = T ∨ (s.size = 1 ∧ ⟨#[48]⟩ ++ s = T)) ∧ Hid (G w wr)) (fun v _ => 2 - (strOf v).size)
  case atStart => exact ⟨D, rfl, by rcases H2.out with ⟨a, b⟩ | b; exact .inr ⟨a, b⟩; exact .inl b, G1⟩
  case round =>
    obtain ⟨s, rfl, (rfl | ⟨hs, he⟩), HG⟩ := hrel
    · go_wp2
      go_ret
      exact ⟨rfl, HG.out⟩
    · have HE := Lib.hid he
      clear he
      go_wp2
      go_roundw
      case rel => exact ⟨_, rfl, .inl HE.out, HG⟩
      case measure => simp only [strOf, ByteArray.size_append]; omega

theorem two_read (n : Int) (h0 : 0 ≤ n) (h1 : n < 100) (w : World) :
    Calls Tryd.prog 50 #[.string (twoB n), .int .i64 10, .int .i64 32] w fun e w' => e = .returned (.tuple #[.int .u64 n, .nilIface]) ∧ G w w' := by
  have hp : Lib.parseUintB 32 (twoB n).data.toList = .ok n.toNat := by
    unfold Lib.parseUintB twoB
    rw [mkB_data, if_neg (by unfold twoL; simp)]
    exact two_parse h0 h1
  refine (Tryd.strconv_ParseUint_10_at32_ok (twoB n) (by rw [twoB_size]; omega) _ hp w).mono ?_
  rintro e w' ⟨rfl, k⟩
  exact ⟨by rw [Int.toNat_of_nonneg h0], parsed_G (k.elim .inl (fun e => .inr ⟨_, e⟩))⟩

set_option maxRecDepth 20000 in
set_option maxHeartbeats 4000000 in
theorem CodeText_yes (h m s f r : Int) (hv : tcP ⟨h, m, s, f, r⟩) (w : World) (ht : TabP w) :
    Calls Tryd.prog 21 #[.agg #[.int .i64 h, .int .i64 m, .int .i64 s, .int .i64 f, .int .i64 r]] w fun e w' => e = .returned (.string (cdB ⟨h, m, s, f, r⟩)) ∧ G w w' := by
  have KV := Lib.hid (fun (W : World) => iValidCode_yes h m s f r hv W)
  obtain ⟨hr, hh, hm, hs, hf, -⟩ := hv
  simp only at hr hh hm hs hf
  have HT := Lib.hid ht
  have HC := Lib.hid (cdB_app ⟨h, m, s, f, r⟩ (by simp only; omega) (by simp only; omega))
  have OB := Lib.hid (own_new (w := w) (base := w.heap.size) (n := 1) (cap := 1) (size := 5) (e := 38) (cur := #[.int .i64 h, .int .i64 m, .int .i64 s, .int .i64 f, .int .i64 r]) (Nat.le_refl _) (by decide) (by decide) rfl)
  have GB := Lib.hid ((G.refl w).alloc (.cells #[.int .i64 h, .int .i64 m, .int .i64 s, .int .i64 f, .int .i64 r] 38))
  have K0 := Lib.hid (fun (W : World) (g : G w W) => padded_any h (by omega) (by omega) W (HT.out.G g))
  have z0 := twoB_size h
  have K1 := Lib.hid (fun (W : World) (g : G w W) => padded_any m (by omega) (by omega) W (HT.out.G g))
  have z1 := twoB_size m
  have K2 := Lib.hid (fun (W : World) (g : G w W) => padded_any s (by omega) (by omega) W (HT.out.G g))
  have z2 := twoB_size s
  have K3 := Lib.hid (fun (W : World) (g : G w W) => padded_any f (by omega) (by omega) W (HT.out.G g))
  have z3 := twoB_size f
  have K4 := Lib.hid (fun (W : World) (g : G w W) => Decimal_any r (by omega) (by omega) W (HT.out.G g))
  have z4 := dec_len r (by omega) (by omega)
  simp only at HC
  obtain ⟨D0, HD0⟩ : ∃ D, Hid (twoB h = D) := ⟨_, rfl⟩
  rw [HD0.out] at K0 HC z0
  obtain ⟨D1, HD1⟩ : ∃ D, Hid (twoB m = D) := ⟨_, rfl⟩
  rw [HD1.out] at K1 HC z1
  obtain ⟨D2, HD2⟩ : ∃ D, Hid (twoB s = D) := ⟨_, rfl⟩
  rw [HD2.out] at K2 HC z2
  obtain ⟨D3, HD3⟩ : ∃ D, Hid (twoB f = D) := ⟨_, rfl⟩
  rw [HD3.out] at K3 HC z3
  obtain ⟨D4, HD4⟩ : ∃ D, Hid (dec r = D) := ⟨_, rfl⟩
  rw [HD4.out] at K4 HC z4
  obtain ⟨T, HT2⟩ : ∃ T, Hid (cdB ⟨h, m, s, f, r⟩ = T) := ⟨_, rfl⟩
  rw [HT2.out] at HC ⊢
  have s58 : (ByteArray.mk #[58]).size = 1 := rfl
  have s64 : (ByteArray.mk #[64]).size = 1 := rfl
  clear ht hr hh hm hs hf HD0 HD1 HD2 HD3 HD4 HT2
  go_enter Tryd.func21, Tryd.ntmps21
  go_wp2_with (go_at_call 48; (with_reducible refine (KV.out _).mono ?_); rintro e w1 ⟨rfl, g1⟩; have G1 := Lib.hid (GB.out.trans g1); have O1 := Lib.hid (own_G OB.out g1); clear g1)
  have gc0 := cellR (own_cellAt_mid O1.out (j := 0) rfl)
  have gc1 := cellR (own_cellAt_mid O1.out (j := 1) rfl)
  have gc2 := cellR (own_cellAt_mid O1.out (j := 2) rfl)
  have gc3 := cellR (own_cellAt_mid O1.out (j := 3) rfl)
  have gc4 := cellR (own_cellAt_mid O1.out (j := 4) rfl)
  refine region_quiet_G (by kernel_rfl) (by kernel_rfl) ?_; (repeat (go_big_quiet_step (((first | (go_at_call 51; with_reducible exact quiet_G (K0.out _ (G1.out.trans (G.regrown _ _ _)))) | (go_at_call 51; with_reducible exact quiet_G (K1.out _ (G1.out.trans (G.regrown _ _ _)))) | (go_at_call 51; with_reducible exact quiet_G (K2.out _ (G1.out.trans (G.regrown _ _ _)))) | (go_at_call 51; with_reducible exact quiet_G (K3.out _ (G1.out.trans (G.regrown _ _ _)))) | (go_at_call 34; with_reducible exact quiet_G (K4.out _ (G1.out.trans (G.regrown _ _ _))))))))); refine wpQuiet_nil ?_
  intro w2 g2
  have G2 := Lib.hid (G1.out.trans g2)
  clear g2 gc0 gc1 gc2 gc3 gc4
  go_wp2
  go_ret
  exact ⟨congrArg (fun x => Ending.returned (.string x)) HC.out.symm, G2.out⟩

set_option maxRecDepth 20000 in
set_option maxHeartbeats 8000000 in
theorem ReadCode_yes (h m s f r : Int) (hv : tcP ⟨h, m, s, f, r⟩) (w : World) (ht : TabP w) :
    Calls Tryd.prog 20 #[.string (cdB ⟨h, m, s, f, r⟩)] w fun e w' => e = .returned (.tuple #[.agg #[.int .i64 h, .int .i64 m, .int .i64 s, .int .i64 f, .int .i64 r], .bool true]) ∧ G w w' := by
  have HT := Lib.hid ht
  have KV := Lib.hid (fun (W : World) => iValidCode_yes h m s f r hv W)
  have KC := Lib.hid (fun (W : World) (g : G w W) => CodeText_yes h m s f r hv W (HT.out.G g))
  have hsz := cdB_size ⟨h, m, s, f, r⟩
  have B0 := tcP_bd hv (i := 0) (n := h) rfl
  have E0 := Lib.hid (show (cdB ⟨h, m, s, f, r⟩).extract 0 2 = twoB h from cdB_ext ⟨h, m, s, f, r⟩ (i := 0) rfl)
  have K0 := Lib.hid (fun (W : World) => two_read h B0.1 B0.2 W)
  have B1 := tcP_bd hv (i := 1) (n := m) rfl
  have E1 := Lib.hid (show (cdB ⟨h, m, s, f, r⟩).extract 3 5 = twoB m from cdB_ext ⟨h, m, s, f, r⟩ (i := 1) rfl)
  have K1 := Lib.hid (fun (W : World) => two_read m B1.1 B1.2 W)
  have B2 := tcP_bd hv (i := 2) (n := s) rfl
  have E2 := Lib.hid (show (cdB ⟨h, m, s, f, r⟩).extract 6 8 = twoB s from cdB_ext ⟨h, m, s, f, r⟩ (i := 2) rfl)
  have K2 := Lib.hid (fun (W : World) => two_read s B2.1 B2.2 W)
  have B3 := tcP_bd hv (i := 3) (n := f) rfl
  have E3 := Lib.hid (show (cdB ⟨h, m, s, f, r⟩).extract 9 11 = twoB f from cdB_ext ⟨h, m, s, f, r⟩ (i := 3) rfl)
  have K3 := Lib.hid (fun (W : World) => two_read f B3.1 B3.2 W)
  have B4 := tcP_bd hv (i := 4) (n := r) rfl
  have E4 := Lib.hid (show (cdB ⟨h, m, s, f, r⟩).extract 12 14 = twoB r from cdB_ext ⟨h, m, s, f, r⟩ (i := 4) rfl)
  have K4 := Lib.hid (fun (W : World) => two_read r B4.1 B4.2 W)
  obtain ⟨T, HT2⟩ : ∃ T, Hid (cdB ⟨h, m, s, f, r⟩ = T) := ⟨_, rfl⟩
  rw [HT2.out] at hsz KC E0 E1 E2 E3 E4 ⊢
  rw [← E0.out] at K0
  rw [← E1.out] at K1
  rw [← E2.out] at K2
  rw [← E3.out] at K3
  rw [← E4.out] at K4
  have hTT : (T.toList == T.toList) = true := by simp
  have OQ := Lib.hid (own_new (w := w) (base := w.heap.size) (n := 1) (cap := 1) (size := 5) (e := 38) (cur := #[.int .i64 0, .int .i64 0, .int .i64 0, .int .i64 0, .int .i64 0]) (Nat.le_refl _) (by decide) (by decide) rfl)
  have hwz : (w.alloc (.cells #[.int .i64 0, .int .i64 0, .int .i64 0, .int .i64 0, .int .i64 0] 38)).heap.size = w.heap.size + 1 := by simp
  have GA := Lib.hid (show G w (w.alloc (.cells #[.int .i64 0, .int .i64 0, .int .i64 0, .int .i64 0, .int .i64 0] 38)) from (G.refl w).alloc _)
  have OA := Lib.hid (own_new (w := (w.alloc (.cells #[.int .i64 0, .int .i64 0, .int .i64 0, .int .i64 0, .int .i64 0] 38))) (base := w.heap.size + 1) (n := 1) (cap := 1) (size := 5) (e := 76) (cur := #[.int .i64 0, .int .i64 0, .int .i64 0, .int .i64 0, .int .i64 0]) (by omega) (by decide) (by decide) rfl)
  have GB := Lib.hid (GA.out.alloc (.cells #[.int .i64 0, .int .i64 0, .int .i64 0, .int .i64 0, .int .i64 0] 76))
  have OQ1 := Lib.hid (own_G OQ.out ((G.refl (w.alloc (.cells #[.int .i64 0, .int .i64 0, .int .i64 0, .int .i64 0, .int .i64 0] 38))).alloc (.cells #[.int .i64 0, .int .i64 0, .int .i64 0, .int .i64 0, .int .i64 0] 76)))
  rw [hwz] at OA
  clear hwz hv HT2 E0 E1 E2 E3 E4 OQ
  go_enter Tryd.func20, Tryd.ntmps20
  go_wp2
  go_loopw [13] (fun i wr => ∃ xs : List Value, ((i = .int .i64 0 ∧ xs = [.int .i64 0, .int .i64 0, .int .i64 0, .int .i64 0, .int .i64 0]) ∨ (i = .int .i64 1 ∧ xs = [.int .i64 h, .int .i64 0, .int .i64 0, .int .i64 0, .int .i64 0]) ∨ (i = .int .i64 2 ∧ xs = [.int .i64 h, .int .i64 m, .int .i64 0, .int .i64 0, .int .i64 0]) ∨ (i = .int .i64 3 ∧ xs = [.int .i64 h, .int .i64 m, .int .i64 s, .int .i64 0, .int .i64 0]) ∨ (i = .int .i64 4 ∧ xs = [.int .i64 h, .int .i64 m, .int .i64 s, .int .i64 f, .int .i64 0]) ∨ (i = .int .i64 5 ∧ xs = [.int .i64 h, .int .i64 m, .int .i64 s, .int .i64 f, .int .i64 r])) ∧ Hid (wr.ownsRow (w.heap.size + 1) 76 5 (.slice (some ⟨w.heap.size + 1, 0, none⟩) 1 1) 1 xs) ∧ Hid (wr.ownsRow w.heap.size 38 5 (.slice (some ⟨w.heap.size, 0, none⟩) 1 1) 1 [.int .i64 0, .int .i64 0, .int .i64 0, .int .i64 0, .int .i64 0]) ∧ Hid (G w wr)) (fun i _ => 5 - (intOf i).toNat)
  case atStart => exact ⟨_, .inl ⟨rfl, rfl⟩, OA, OQ1, GB⟩
  case round =>
    obtain ⟨xs, hi, HA, HQ, HG⟩ := hrel
    rcases hi with ⟨rfl, rfl⟩ | ⟨rfl, rfl⟩ | ⟨rfl, rfl⟩ | ⟨rfl, rfl⟩ | ⟨rfl, rfl⟩ | ⟨rfl, rfl⟩
    · go_wp2_with (go_at_call 50; (with_reducible refine (K0.out _).mono ?_); rintro e w2 ⟨rfl, g2⟩; have G2 := Lib.hid (HG.out.trans g2); have A2 := Lib.hid (own_G HA.out g2); have Q2 := Lib.hid (own_G HQ.out g2); have hca := own_cellAt_mid A2.out (j := 0) rfl; have hya := own_frozen_of A2.out 0; clear g2)
      have S := Lib.hid (A2.out.stored 0 (.int .i64 h))
      clear hca hya
      go_roundw
      case rel => exact ⟨_, .inr (.inl ⟨rfl, rfl⟩), Lib.hid S.out.1, Lib.hid (own_Gx Q2.out S.out.2 (.inr (by simp [Value.ownBlock]))), Lib.hid (Gx.G G2.out S.out.2 (by intro i hi; cases hi; omega))⟩
      case measure => first | (simp [intOf]; done) | (simp [intOf]; omega)
    · go_wp2_with (go_at_call 50; (with_reducible refine (K1.out _).mono ?_); rintro e w2 ⟨rfl, g2⟩; have G2 := Lib.hid (HG.out.trans g2); have A2 := Lib.hid (own_G HA.out g2); have Q2 := Lib.hid (own_G HQ.out g2); have hca := own_cellAt_mid A2.out (j := 1) rfl; have hya := own_frozen_of A2.out 1; clear g2)
      have S := Lib.hid (A2.out.stored 1 (.int .i64 m))
      clear hca hya
      go_roundw
      case rel => exact ⟨_, .inr (.inr (.inl ⟨rfl, rfl⟩)), Lib.hid S.out.1, Lib.hid (own_Gx Q2.out S.out.2 (.inr (by simp [Value.ownBlock]))), Lib.hid (Gx.G G2.out S.out.2 (by intro i hi; cases hi; omega))⟩
      case measure => first | (simp [intOf]; done) | (simp [intOf]; omega)
    · go_wp2_with (go_at_call 50; (with_reducible refine (K2.out _).mono ?_); rintro e w2 ⟨rfl, g2⟩; have G2 := Lib.hid (HG.out.trans g2); have A2 := Lib.hid (own_G HA.out g2); have Q2 := Lib.hid (own_G HQ.out g2); have hca := own_cellAt_mid A2.out (j := 2) rfl; have hya := own_frozen_of A2.out 2; clear g2)
      have S := Lib.hid (A2.out.stored 2 (.int .i64 s))
      clear hca hya
      go_roundw
      case rel => exact ⟨_, .inr (.inr (.inr (.inl ⟨rfl, rfl⟩))), Lib.hid S.out.1, Lib.hid (own_Gx Q2.out S.out.2 (.inr (by simp [Value.ownBlock]))), Lib.hid (Gx.G G2.out S.out.2 (by intro i hi; cases hi; omega))⟩
      case measure => first | (simp [intOf]; done) | (simp [intOf]; omega)
    · go_wp2_with (go_at_call 50; (with_reducible refine (K3.out _).mono ?_); rintro e w2 ⟨rfl, g2⟩; have G2 := Lib.hid (HG.out.trans g2); have A2 := Lib.hid (own_G HA.out g2); have Q2 := Lib.hid (own_G HQ.out g2); have hca := own_cellAt_mid A2.out (j := 3) rfl; have hya := own_frozen_of A2.out 3; clear g2)
      have S := Lib.hid (A2.out.stored 3 (.int .i64 f))
      clear hca hya
      go_roundw
      case rel => exact ⟨_, .inr (.inr (.inr (.inr (.inl ⟨rfl, rfl⟩)))), Lib.hid S.out.1, Lib.hid (own_Gx Q2.out S.out.2 (.inr (by simp [Value.ownBlock]))), Lib.hid (Gx.G G2.out S.out.2 (by intro i hi; cases hi; omega))⟩
      case measure => first | (simp [intOf]; done) | (simp [intOf]; omega)
    · go_wp2_with (go_at_call 50; (with_reducible refine (K4.out _).mono ?_); rintro e w2 ⟨rfl, g2⟩; have G2 := Lib.hid (HG.out.trans g2); have A2 := Lib.hid (own_G HA.out g2); have Q2 := Lib.hid (own_G HQ.out g2); have hca := own_cellAt_mid A2.out (j := 4) rfl; have hya := own_frozen_of A2.out 4; clear g2)
      have S := Lib.hid (A2.out.stored 4 (.int .i64 r))
      clear hca hya
      go_roundw
      case rel => exact ⟨_, .inr (.inr (.inr (.inr (.inr (⟨rfl, rfl⟩))))), Lib.hid S.out.1, Lib.hid (own_Gx Q2.out S.out.2 (.inr (by simp [Value.ownBlock]))), Lib.hid (Gx.G G2.out S.out.2 (by intro i hi; cases hi; omega))⟩
      case measure => first | (simp [intOf]; done) | (simp [intOf]; omega)
    · have ha0 := own_cellAt_mid HA.out (j := 0) rfl
      have ha1 := own_cellAt_mid HA.out (j := 1) rfl
      have ha2 := own_cellAt_mid HA.out (j := 2) rfl
      have ha3 := own_cellAt_mid HA.out (j := 3) rfl
      have ha4 := own_cellAt_mid HA.out (j := 4) rfl
      obtain ⟨b, HB⟩ : ∃ b, Hid (wr.heap.size = b) := ⟨_, rfl⟩
      have GC := Lib.hid ((G.refl wr).alloc (.cells #[.int .i64 h, .int .i64 m, .int .i64 s, .int .i64 f, .int .i64 r] 38))
      have CC0 := Lib.hid (show (wr.alloc (.cells #[.int .i64 h, .int .i64 m, .int .i64 s, .int .i64 f, .int .i64 r] 38)).cell? ⟨wr.heap.size, 0, none⟩ = some (.int .i64 h) from World.cell?_alloc_at _ _ _ _ rfl)
      have CC1 := Lib.hid (show (wr.alloc (.cells #[.int .i64 h, .int .i64 m, .int .i64 s, .int .i64 f, .int .i64 r] 38)).cell? ⟨wr.heap.size, 1, none⟩ = some (.int .i64 m) from World.cell?_alloc_at _ _ _ _ rfl)
      have CC2 := Lib.hid (show (wr.alloc (.cells #[.int .i64 h, .int .i64 m, .int .i64 s, .int .i64 f, .int .i64 r] 38)).cell? ⟨wr.heap.size, 2, none⟩ = some (.int .i64 s) from World.cell?_alloc_at _ _ _ _ rfl)
      have CC3 := Lib.hid (show (wr.alloc (.cells #[.int .i64 h, .int .i64 m, .int .i64 s, .int .i64 f, .int .i64 r] 38)).cell? ⟨wr.heap.size, 3, none⟩ = some (.int .i64 f) from World.cell?_alloc_at _ _ _ _ rfl)
      have CC4 := Lib.hid (show (wr.alloc (.cells #[.int .i64 h, .int .i64 m, .int .i64 s, .int .i64 f, .int .i64 r] 38)).cell? ⟨wr.heap.size, 4, none⟩ = some (.int .i64 r) from World.cell?_alloc_at _ _ _ _ rfl)
      go_wp2_with (first | (go_at_call 48; (with_reducible refine (KV.out _).mono ?_); rintro e w3 ⟨rfl, g3⟩; have G3 := Lib.hid ((HG.out.trans GC.out).trans g3); have Q3 := Lib.hid (own_G (own_G HQ.out GC.out) g3); have cc0 := g3.cell CC0.out; have cc1 := g3.cell CC1.out; have cc2 := g3.cell CC2.out; have cc3 := g3.cell CC3.out; have cc4 := g3.cell CC4.out; have DD0 := Lib.hid cc0; have DD1 := Lib.hid cc1; have DD2 := Lib.hid cc2; have DD3 := Lib.hid cc3; have DD4 := Lib.hid cc4; clear g3) | (go_at_call 21; (with_reducible refine (KC.out _ G3.out).mono ?_); rintro e w5 ⟨rfl, g5⟩; have G5 := Lib.hid (G3.out.trans g5); have Q5 := Lib.hid (own_G Q3.out g5); clear cc0 cc1 cc2 cc3 cc4; have ee0 := g5.cell DD0.out; have ee1 := g5.cell DD1.out; have ee2 := g5.cell DD2.out; have ee3 := g5.cell DD3.out; have ee4 := g5.cell DD4.out; have hcq0 := own_cellAt_mid Q5.out (j := 0) rfl; have hyq0 := own_frozen_of Q5.out 0; have hcq1 := own_cellAt_mid Q5.out (j := 1) rfl; have hyq1 := own_frozen_of Q5.out 1; have hcq2 := own_cellAt_mid Q5.out (j := 2) rfl; have hyq2 := own_frozen_of Q5.out 2; have hcq3 := own_cellAt_mid Q5.out (j := 3) rfl; have hyq3 := own_frozen_of Q5.out 3; have hcq4 := own_cellAt_mid Q5.out (j := 4) rfl; have hyq4 := own_frozen_of Q5.out 4; clear g5))
      clear hcq0 hyq0 hcq1 hyq1 hcq2 hyq2 hcq3 hyq3 hcq4 hyq4
      have S0 := Lib.hid (Q5.out.stored 0 (.int .i64 h))
      have S1 := Lib.hid (S0.out.1.stored 1 (.int .i64 m))
      have S2 := Lib.hid (S1.out.1.stored 2 (.int .i64 s))
      have S3 := Lib.hid (S2.out.1.stored 3 (.int .i64 f))
      have S4 := Lib.hid (S3.out.1.stored 4 (.int .i64 r))
      have k0 := own_cellAt_mid S4.out.1 (j := 0) rfl
      have k1 := own_cellAt_mid S4.out.1 (j := 1) rfl
      have k2 := own_cellAt_mid S4.out.1 (j := 2) rfl
      have k3 := own_cellAt_mid S4.out.1 (j := 3) rfl
      have k4 := own_cellAt_mid S4.out.1 (j := 4) rfl
      exact bodyPost_ret (v := .tuple #[.agg #[.int .i64 h, .int .i64 m, .int .i64 s, .int .i64 f, .int .i64 r], .bool true]) (by simp [results, Tryd.results20, go_sem, k0, k1, k2, k3, k4]) rfl ⟨rfl, Gx.G G5.out (Gx.trans (Gx.trans (Gx.trans (Gx.trans S0.out.2 S1.out.2) S2.out.2) S3.out.2) S4.out.2) (by intro i hi; cases hi; exact Nat.le_refl _)⟩
end Go.Proofs.YtcoaldhmofdfgaaDoor
