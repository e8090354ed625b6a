/-
  The law FnSound, walked.
-/
import Derived.Test.YtmcddcdhppomkaaDoorSndM
import Derived.Test.YtmcddcdhppomkaaDoorDrawSmp
import Derived.Test.YtmcddcdhppomkaaDoorR8W
import Derived.Test.YtmcddcdhppomkaaDoorMixN
import Derived.Test.YtmcddcdhppomkaaDoorRdCh
import Derived.Deep.CutRange
import Derived.Deep.DeepCutAuto
namespace Go.Proofs.YtmcddcdhppomkaaDoor
open Go.RowKit

theorem resI_of {w : World} {M : List Int} {code : Int} {e : Ending} {w' : World} (h : Res w 2 1 iv (M, code) e w') : ∃ A c, e = .returned (.tuple #[.slice A M.length c, .int .i64 code]) ∧ G w w' ∧ w'.ownsRow w.heap.size 2 1 (.slice A M.length c) M.length (M.flatMap iv) := h
theorem resS_of {w : World} {M : List ByteArray} {code : Int} {e : Ending} {w' : World} (h : Res w 9 1 sv (M, code) e w') : ∃ A c, e = .returned (.tuple #[.slice A M.length c, .int .i64 code]) ∧ G w w' ∧ w'.ownsRow w.heap.size 9 1 (.slice A M.length c) M.length (M.flatMap sv) := h
theorem res2_of {w : World} {M N : List Int} {code : Int} {e : Ending} {w' : World} (h : Res2 w 2 (M, N, code) e w') : ∃ A c B d, e = .returned (.tuple #[.slice A M.length c, .slice B N.length d, .int .i64 code]) ∧ G w w' ∧ w'.ownsRow w.heap.size 2 1 (.slice A M.length c) M.length (M.flatMap iv) ∧ w'.ownsRow w.heap.size 2 1 (.slice B N.length d) N.length (N.flatMap iv) := by
  obtain ⟨A, c, B, d, h1, h2, -, h4, h5⟩ := h
  exact ⟨A, c, B, d, h1, h2, h4, h5⟩
theorem vs_of {M : List Int} (hl : M.length ≤ 9) (hb : ∀ x ∈ M, -30000 ≤ x ∧ x ≤ 30000) : vs M = true :=
  vs_len (by omega) (List.all_eq_true.2 fun x hx => by have := hb x hx; exact inB_mk ⟨by omega, by omega⟩)
theorem gf_room {g : Int} (h0 : 0 ≤ g) (h1 : g ≤ 600) : 1000000 ≤ gf g ∧ gf g ≤ 2000000 := by
  have a := gf_le (a := 0) (b := g) (by omega) h0 h1
  have b := gf_le (a := g) (b := 600) (by omega) h1 (by omega)
  have c : gf 600 ≤ 2000000 := by decide +kernel
  rw [gf_zero] at a
  omega
theorem pk_mul {p f : Int} (h0 : 0 ≤ p) (h1 : p ≤ 32767) (h2 : 1000000 ≤ f) (h3 : f ≤ 2000000) : 0 ≤ p * f ∧ p * f ≤ 65534000000 := by
  refine ⟨Int.mul_nonneg h0 (by omega), ?_⟩
  have := Int.mul_le_mul h1 h3 (by omega) (by omega : (0 : Int) ≤ 32767)
  omega
/-- A block that holds a list's cells reads as the list. -/
theorem rd_blk {α : Type} {f : α → List Value} {sz : Nat} (w : World) (L : List α) (T : Nat) (hf : ∀ x, (f x).length = sz) (hsz : 0 < sz) (hm : L.length ≤ 100) : Rd (w.alloc (.cells (L.flatMap f).toArray T)) (some ⟨w.heap.size, 0, none⟩) sz f L := by
  have h := World.ownsRow_lit (e := T) (base := w.heap.size) (size := sz) w (L.flatMap f).toArray L.length (Nat.le_refl _) (by unfold maxLen; omega) (by rw [List.size_toArray, flat_len hf])
  exact rd_own hsz hf (by simpa using h)
theorem rdR_two (w : World) (A : Option Addr) (n c : Nat) (L : List Int) (T : Nat) (hn : L.length = n) (hc : n ≤ c) (h : Rd w A 1 iv L) : RdR (w.alloc (.cells #[.slice A n c, .slice A n c] T)) (some ⟨w.heap.size, 0, none⟩) [L, L] := fun _ => by
  subst hn
  refine ⟨w.heap.size, 0, rfl, fun i r hr => ⟨A, c, ?_, ?_, ?_⟩⟩
  all_goals rcases i with _ | _ | i
  all_goals first
    | (simp at hr; done)
    | (obtain rfl : L = r := by simpa using hr)
  all_goals first
    | exact hc
    | exact h.G ((G.refl w).alloc _)
    | exact World.cell?_alloc_at _ _ _ _ rfl
theorem rdR_one (w : World) (A : Option Addr) (n c : Nat) (L : List Int) (T : Nat) (hn : L.length = n) (hc : n ≤ c) (h : Rd w A 1 iv L) : RdR (w.alloc (.cells #[.slice A n c] T)) (some ⟨w.heap.size, 0, none⟩) [L] := fun _ => by
  subst hn
  refine ⟨w.heap.size, 0, rfl, fun i r hr => ⟨A, c, ?_, ?_, ?_⟩⟩
  all_goals rcases i with _ | i
  all_goals first
    | (simp at hr; done)
    | (obtain rfl : L = r := by simpa using hr)
  all_goals first
    | exact hc
    | exact h.G ((G.refl w).alloc _)
    | exact World.cell?_alloc_at _ _ _ _ rfl
theorem chT_sz {p : Int} (h0 : -1000 ≤ p) (h1 : p ≤ 1000) : (chT (chA p)).size ≤ 1048576 := by
  have a := dec_len p (by omega) (by omega)
  have b := dec_len (-300) (by omega) (by omega)
  unfold chT
  rw [if_neg (by simp [chA])]
  unfold chS
  show (mkB [97] ++ ⟨#[32]⟩ ++ dec (-300) ++ ⟨#[32]⟩ ++ dec p).size ≤ 1048576
  have c : (mkB [97]).size = 1 := rfl
  have d : (ByteArray.mk #[32]).size = 1 := rfl
  simp only [ByteArray.size_append, c, d]
  omega
set_option maxRecDepth 20000 in
set_option maxHeartbeats 16000000 in
theorem lawFnSound (A0 : Option Addr) (n0 c0 : Nat) (z0 : List Int) (A1 : Option Addr) (n1 c1 : Nat) (z1 : List Int) (w : World) (hE : Env w) (ht : Tab w) (h0 : IsRow .u8 w A0 n0 c0 z0) (h1 : IsRow .u8 w A1 n1 c1 z1) :
    Calls Tryd.prog 3 #[.slice A0 n0 c0, .slice A1 n1 c1] w fun e w' => e = .returned (.bool true) ∧ Below w.heap.size w w' := by
  have HE := Lib.hid hE
  have HTb := Lib.hid ht
  clear hE ht
  by_cases hb0 : n0 ≤ 1048576
  case neg =>
    clear h0 h1
    by_cases hb1 : n1 ≤ 1048576
    all_goals
      go_enter Tryd.func3, Tryd.ntmps3
      go_wp2
      go_ret
      exact ⟨rfl, G.refl _⟩
  by_cases hb1 : n1 ≤ 1048576
  case neg =>
    clear h0 h1
    go_enter Tryd.func3, Tryd.ntmps3
    go_wp2
    go_ret
    exact ⟨rfl, G.refl _⟩
  obtain ⟨hc0, hl0⟩ := code_of_isRow h0 hb0
  obtain ⟨hc1, hl1⟩ := code_of_isRow h1 hb1
  have KP := Lib.hid (R8Samples_any A0 n0 c0 _ w hc0 hl0)
  have HC1 := Lib.hid hc1
  clear h0 h1 hc0 hl0 hc1 hl1
  go_enter Tryd.func3, Tryd.ntmps3
  go_wp2_with fail
  refine (r8Long_no A0 A1 n0 c0 n1 c1 hb0 hb1 _).mono ?_
  rintro e w' ⟨rfl, rfl⟩
  dsimp only
  go_wp2_with fail
  refine KP.out.mono ?_
  rintro e w1 ⟨b, cb, M, rfl, hM, hMB, g1, om⟩
  have G1 := Lib.hid g1
  have OM := Lib.hid om
  clear g1 om KP
  dsimp only
  have hvs := vs_of hM hMB
  have HVS := Lib.hid hvs
  have AP := Lib.hid (apR_zero hvs)
  have PK := Lib.hid (show peakR M = (peakL M, 0) by simp [peakR, hvs])
  have HD := Lib.hid (show headR M = (headN (peakL M) 601 600, 0) by simp [headR, hvs])
  have hpb := peakL_bd (vs_all hvs).2
  have HL := Lib.hid (loud_law hvs)
  obtain ⟨g, eg, hg0, hg1, hgl, hgu⟩ := head_is hpb.1 hpb.2 601 600 (by omega) (by omega) (by omega) (fun h => by omega)
  rw [eg] at HD
  obtain ⟨p, HPP⟩ : ∃ p, Hid (peakL M = p) := ⟨_, rfl⟩
  rw [HPP.out] at PK HL hpb hgl hgu
  have HGL := Lib.hid hgl
  have HGU := Lib.hid hgu
  clear hvs eg hgl hgu hMB
  obtain ⟨n, Hn⟩ : ∃ n, Hid (M.length = n) := ⟨_, rfl⟩
  have hcap := (own_cap OM.out).1
  rw [Hn.out] at OM hM hcap ⊢
  go_wp2_with fail
  refine (iApplyGain_any _ n cb M 0 _ (rd_ints (by have q := OM.out; rw [← Hn.out] at q; exact q)) Hn.out (by omega)).mono ?_
  rw [AP.out]
  intro e w2 hT
  obtain ⟨A6, c6, rfl, g2, o2⟩ := resI_of hT
  clear hT AP
  have RM := Lib.hid (rd_ints (L := M) (by have q := OM.out; rw [← Hn.out] at q; exact q))
  replace RM := Lib.hid (RM.out.G g2)
  replace OM := Lib.hid (own_G OM.out g2)
  have G2 := Lib.hid (G1.out.trans g2)
  clear g2 G1
  have O6 := Lib.hid o2
  clear o2
  dsimp only
  rw [Hn.out]
  go_wp2_with fail
  refine (iPeakOf_any _ n cb M _ RM.out Hn.out (by omega)).mono ?_
  rw [PK.out]
  rintro e w' ⟨rfl, rfl⟩
  dsimp only
  go_wp2_with fail
  refine (iHeadroomOf_any _ n cb M _ RM.out Hn.out (by omega)).mono ?_
  rw [HD.out]
  rintro e w3 ⟨rfl, g3⟩
  replace RM := Lib.hid (RM.out.G g3)
  replace OM := Lib.hid (own_G OM.out g3)
  replace O6 := Lib.hid (own_G O6.out g3)
  have G3 := Lib.hid (G2.out.trans g3)
  clear g3 G2
  dsimp only
  go_wp2_with fail
  refine (iLoudnessOf_any _ n cb M _ RM.out Hn.out (by omega)).mono ?_
  obtain ⟨lq, HLQ⟩ : ∃ x, Hid (loudR M = x) := ⟨_, rfl⟩
  rw [HLQ.out] at HL ⊢
  rintro e w4 ⟨rfl, g4⟩
  replace RM := Lib.hid (RM.out.G g4)
  replace OM := Lib.hid (own_G OM.out g4)
  replace O6 := Lib.hid (own_G O6.out g4)
  have G4 := Lib.hid (G3.out.trans g4)
  clear g4 G3
  dsimp only
  have f1 : decide (p < 0) = false := by simp; omega
  have f1b : ¬ (p < 0) := by omega
  have f2 : decide (g < 0) = false := by simp; omega
  have f2b : ¬ (g < 0) := by omega
  have f3 : decide (600 < g) = false := by simp; omega
  have f3b : ¬ (600 < g) := by omega
  go_upto_region 8 with fail
  go_cut [104] (fun s104 wx => s104 = .bool false ∧ Hid (G w4 wx))
  case first =>
    have KS := Lib.hid (r8Same_any A6 (some ⟨b, 0, none⟩) n c6 cb M w4 (rd_ints (by have q := O6.out; exact q)) RM.out Hn.out (by omega))
    rcases HL.out with ⟨rfl, rfl⟩ | ⟨hne, q, rfl, hq0, hq1⟩
    · obtain rfl : n = 0 := by rw [← Hn.out]; rfl
      clear HL
      dsimp only
      go_wp2_with fail
      refine KS.out.mono ?_
      rintro e w5 ⟨rfl, g5⟩
      have G5 := Lib.hid g5
      clear g5
      dsimp only
      go_wp2
      go_meet
      case rel => exact ⟨rfl, G5⟩
    · have hn0 : 0 < n := by
        rw [← Hn.out]
        exact List.length_pos_iff.2 hne
      have f4 : decide (q < 0) = false := by simp; omega
      have f4b : ¬ (q < 0) := by omega
      have f5 : decide (p < q) = false := by simp; omega
      have f5b : ¬ (p < q) := by omega
      have f6 : decide ((0 : Int) < (n : Int)) = true := by simp; omega
      have f6b : (0 : Int) < (n : Int) := by omega
      clear HL hne
      dsimp only
      go_wp2_with fail
      refine KS.out.mono ?_
      rintro e w5 ⟨rfl, g5⟩
      have G5 := Lib.hid g5
      clear g5
      dsimp only
      go_wp2
      go_meet
      case rel => exact ⟨rfl, G5⟩
  case rest =>
    obtain ⟨rfl, gc⟩ := hcut
    have g5 := gc.out
    clear gc HL HLQ f1 f1b f2 f2b f3 f3b
    replace RM := Lib.hid (RM.out.G g5)
    replace OM := Lib.hid (own_G OM.out g5)
    replace O6 := Lib.hid (own_G O6.out g5)
    have G5 := Lib.hid (G4.out.trans g5)
    clear g5 G4
    have hf := gf_room hg0 hg1
    have GR := Lib.hid (show gfR g = (gf g, 0) by unfold gfR; rw [inB_mk (by omega)]; rfl)
    have GR2 := Lib.hid (fun (h : g < 600) => (show gfR (g + 1) = (gf (g + 1), 0) by unfold gfR; rw [inB_mk (by omega)]; rfl))
    have HF2 := Lib.hid (fun (h : g < 600) => gf_room (g := g + 1) (by omega) (by omega))
    obtain ⟨f, HF⟩ : ∃ f, Hid (gf g = f) := ⟨_, rfl⟩
    obtain ⟨f2, HF3⟩ : ∃ f2, Hid (gf (g + 1) = f2) := ⟨_, rfl⟩
    rw [HF.out] at hf GR HGL
    rw [HF3.out] at GR2 HF2 HGU
    have hm := pk_mul hpb.1 hpb.2 hf.1 hf.2
    have hm0 := hm.1
    have hm1 := hm.2
    go_wp2_with fail
    refine (sGainFactor_any g _).mono ?_
    rw [GR.out]
    rintro e w6 ⟨rfl, g6⟩
    replace RM := Lib.hid (RM.out.G g6)
    replace OM := Lib.hid (own_G OM.out g6)
    replace O6 := Lib.hid (own_G O6.out g6)
    have G6 := Lib.hid (G5.out.trans g6)
    clear g6 G5
    dsimp only
    have hw : IntKind.i64.wrap (p * f) = p * f := IntWalk.i64_in _ (by omega)
    go_wp2_with fail
    refine (sDivRound_any _ hm0 (by omega) _).mono ?_
    obtain ⟨nr, HNR⟩ : ∃ x, Hid (near (p * f) 1000000 = x) := ⟨_, rfl⟩
    have hgl := HGL.out
    rw [HNR.out] at hgl ⊢
    rintro e w' ⟨rfl, rfl⟩
    dsimp only
    have q1 : decide (32767 < nr) = false := by simp; omega
    have q2 : ¬ (32767 < nr) := by omega
    clear hgl hm hm0 hm1 hw
    go_upto_if 120 with fail
    go_cut [16, 17] (fun s16 s17 wx => Hid (G w6 wx))
    case first =>
      clear q1 q2
      by_cases h6 : g < 600
      · have e1 : decide (g < 600) = true := decide_eq_true h6
        have hk := HF2.out h6
        have hm := pk_mul hpb.1 hpb.2 hk.1 hk.2
        have hm0 := hm.1
        have hm1 := hm.2
        have hup := HGU.out h6
        have E2 := Lib.hid (GR2.out h6)
        have hga : g + 1 ≤ 600 := by omega
        clear hk hm
        go_wp2_with fail
        refine (sGainFactor_any (g + 1) _).mono ?_
        rw [E2.out]
        rintro e w7 ⟨rfl, g7⟩
        have G7 := Lib.hid g7
        clear g7
        dsimp only
        have hw : IntKind.i64.wrap (p * f2) = p * f2 := IntWalk.i64_in _ (by omega)
        go_wp2_with fail
        refine (sDivRound_any _ hm0 (by omega) _).mono ?_
        obtain ⟨nr2, HNR2⟩ : ∃ x, Hid (near (p * f2) 1000000 = x) := ⟨_, rfl⟩
        rw [HNR2.out] at hup ⊢
        rintro e w' ⟨rfl, rfl⟩
        dsimp only
        have q1 : decide (nr2 ≤ 32767) = false := by simp; omega
        have q2 : ¬ (nr2 ≤ 32767) := by omega
        clear hup hm0 hm1 hw
        go_wp2
        go_meet
        case rel => exact G7
      · have e1 : decide (g < 600) = false := decide_eq_false h6
        go_wp2
        go_meet
        case rel => exact Lib.hid (G.refl _)
    case rest =>
      obtain ⟨wq, rfl⟩ : ∃ wq : World, wq = wc := ⟨_, rfl⟩
      have g7 := hcut.out
      clear hcut q1 q2 HNR HGL HGU HF2 GR2 HF3 HF
      replace RM := Lib.hid (RM.out.G g7)
      replace OM := Lib.hid (own_G OM.out g7)
      replace O6 := Lib.hid (own_G O6.out g7)
      have G7 := Lib.hid (G6.out.trans g7)
      clear g7 G6
      go_wp2_with fail
      refine (r8Wide_any A1 n1 c1 _ 0 2001 _ (HC1.out.g G7.out) (by omega) (by omega) (by omega) (by omega)).mono ?_
      rintro e w' ⟨x, hx0, hx1, rfl, rfl⟩
      dsimp only
      obtain ⟨pan, HPAN⟩ : ∃ z, x - 1000 = z := ⟨_, rfl⟩
      have hpn : -1000 ≤ pan ∧ pan ≤ 1000 := by omega
      have hwx : IntKind.i64.wrap (x - 1000) = pan := by rw [HPAN]; exact IntWalk.i64_in _ (by omega)
      have za : (wq.alloc (.cells #[.string ⟨#[97]⟩, .int .i64 (-300), .int .i64 pan, .bool false] 35)).heap.size = wq.heap.size + 1 := by simp
      have zb : ((wq.alloc (.cells #[.string ⟨#[97]⟩, .int .i64 (-300), .int .i64 pan, .bool false] 35)).alloc (.cells #[.string ⟨#[98]⟩, .int .i64 0, .int .i64 0, .bool true] 35)).heap.size = wq.heap.size + 1 + 1 := by simp
      have zc : (((wq.alloc (.cells #[.string ⟨#[97]⟩, .int .i64 (-300), .int .i64 pan, .bool false] 35)).alloc (.cells #[.string ⟨#[98]⟩, .int .i64 0, .int .i64 0, .bool true] 35)).alloc (.cells #[.string ⟨#[97]⟩, .int .i64 (-300), .int .i64 pan, .bool false, .string ⟨#[98]⟩, .int .i64 0, .int .i64 0, .bool true] 35)).heap.size = wq.heap.size + 1 + 1 + 1 := by simp
      have MX2 := Lib.hid (mix_two hpn.1 hpn.2 HVS.out)
      have MX1 := Lib.hid (mix_one hpn.1 hpn.2 HVS.out)
      have AU := Lib.hid (aud_two hpn.1 hpn.2)
      have HPLE := Lib.hid (fun (x : Int) => clip_le panC_bd pan x)
      have HPRE := Lib.hid (fun (x : Int) => clip_le panS_bd pan x)
      obtain ⟨fl, HFL⟩ : ∃ fl : Int → Int, Hid ((fun x => clipN (mxV panC (chA pan) x)) = fl) := ⟨_, rfl⟩
      obtain ⟨fr, HFR⟩ : ∃ fr : Int → Int, Hid ((fun x => clipN (mxV panS (chA pan) x)) = fr) := ⟨_, rfl⟩
      have HLE := Lib.hid (show ∀ x : Int, max (fl x) (-(fl x)) ≤ max x (-x) from fun x => by rw [← HFL.out]; exact HPLE.out x)
      have HRE := Lib.hid (show ∀ x : Int, max (fr x) (-(fr x)) ≤ max x (-x) from fun x => by rw [← HFR.out]; exact HPRE.out x)
      rw [HFL.out, HFR.out] at MX2 MX1
      obtain ⟨PL, HPL⟩ : ∃ PL, Hid (M.map fl = PL) := ⟨_, rfl⟩
      obtain ⟨PR, HPR⟩ : ∃ PR, Hid (M.map fr = PR) := ⟨_, rfl⟩
      rw [HPL.out, HPR.out] at MX2 MX1
      have HNL := Lib.hid (show PL.length = n by rw [← HPL.out, List.length_map, Hn.out])
      have HNR := Lib.hid (show PR.length = n by rw [← HPR.out, List.length_map, Hn.out])
      have HVB := Lib.hid (vcB_A hpn.1 hpn.2)
      have HWF2 := Lib.hid (show ∀ x ∈ [chA pan, chB], WfChannel x from fun x hx => by
        simp only [List.mem_cons, List.mem_nil_iff, or_false] at hx
        rcases hx with rfl | rfl <;> exact (by decide : (1 : Nat) ≤ maxLen))
      have HWF1 := Lib.hid (show ∀ x ∈ [chA pan], WfChannel x from fun x hx => HWF2.out x (by simp only [List.mem_cons, List.mem_nil_iff, or_false] at hx ⊢; exact .inl hx))
      have HWFA := Lib.hid (HWF2.out (chA pan) (by simp))
      have GD := Lib.hid (((((G.refl wq).alloc (.cells #[.string ⟨#[97]⟩, .int .i64 (-300), .int .i64 pan, .bool false] 35)).alloc (.cells #[.string ⟨#[98]⟩, .int .i64 0, .int .i64 0, .bool true] 35)).alloc (.cells #[.string ⟨#[97]⟩, .int .i64 (-300), .int .i64 pan, .bool false, .string ⟨#[98]⟩, .int .i64 0, .int .i64 0, .bool true] 35)).alloc (.cells #[.slice (some ⟨b, 0, none⟩) n cb, .slice (some ⟨b, 0, none⟩) n cb] 24))
      have RCH := Lib.hid (show Rd ((((wq.alloc (.cells #[.string ⟨#[97]⟩, .int .i64 (-300), .int .i64 pan, .bool false] 35)).alloc (.cells #[.string ⟨#[98]⟩, .int .i64 0, .int .i64 0, .bool true] 35)).alloc (.cells #[.string ⟨#[97]⟩, .int .i64 (-300), .int .i64 pan, .bool false, .string ⟨#[98]⟩, .int .i64 0, .int .i64 0, .bool true] 35)).alloc (.cells #[.slice (some ⟨b, 0, none⟩) n cb, .slice (some ⟨b, 0, none⟩) n cb] 24)) (some ⟨wq.heap.size + 1 + 1, 0, none⟩) 4 cChannel [chA pan, chB] from by
        have q := rd_blk (f := cChannel) (sz := 4) ((wq.alloc (.cells #[.string ⟨#[97]⟩, .int .i64 (-300), .int .i64 pan, .bool false] 35)).alloc (.cells #[.string ⟨#[98]⟩, .int .i64 0, .int .i64 0, .bool true] 35)) [chA pan, chB] 35 cChannel_len (by decide) (by show (2 : Nat) ≤ 100; decide)
        rw [zb] at q
        exact Rd.G q ((G.refl (((wq.alloc (.cells #[.string ⟨#[97]⟩, .int .i64 (-300), .int .i64 pan, .bool false] 35)).alloc (.cells #[.string ⟨#[98]⟩, .int .i64 0, .int .i64 0, .bool true] 35)).alloc (.cells #[.string ⟨#[97]⟩, .int .i64 (-300), .int .i64 pan, .bool false, .string ⟨#[98]⟩, .int .i64 0, .int .i64 0, .bool true] 35))).alloc _))
      have RRW := Lib.hid (show RdR ((((wq.alloc (.cells #[.string ⟨#[97]⟩, .int .i64 (-300), .int .i64 pan, .bool false] 35)).alloc (.cells #[.string ⟨#[98]⟩, .int .i64 0, .int .i64 0, .bool true] 35)).alloc (.cells #[.string ⟨#[97]⟩, .int .i64 (-300), .int .i64 pan, .bool false, .string ⟨#[98]⟩, .int .i64 0, .int .i64 0, .bool true] 35)).alloc (.cells #[.slice (some ⟨b, 0, none⟩) n cb, .slice (some ⟨b, 0, none⟩) n cb] 24)) (some ⟨wq.heap.size + 1 + 1 + 1, 0, none⟩) [M, M] from by
        have q := rdR_two (((wq.alloc (.cells #[.string ⟨#[97]⟩, .int .i64 (-300), .int .i64 pan, .bool false] 35)).alloc (.cells #[.string ⟨#[98]⟩, .int .i64 0, .int .i64 0, .bool true] 35)).alloc (.cells #[.string ⟨#[97]⟩, .int .i64 (-300), .int .i64 pan, .bool false, .string ⟨#[98]⟩, .int .i64 0, .int .i64 0, .bool true] 35)) (some ⟨b, 0, none⟩) n cb M 24 Hn.out hcap (RM.out.G ((((G.refl wq).alloc _).alloc _).alloc _))
        rw [zc] at q
        exact q)
      have ka0 := Lib.hid (show ((((wq.alloc (.cells #[.string ⟨#[97]⟩, .int .i64 (-300), .int .i64 pan, .bool false] 35)).alloc (.cells #[.string ⟨#[98]⟩, .int .i64 0, .int .i64 0, .bool true] 35)).alloc (.cells #[.string ⟨#[97]⟩, .int .i64 (-300), .int .i64 pan, .bool false, .string ⟨#[98]⟩, .int .i64 0, .int .i64 0, .bool true] 35)).alloc (.cells #[.slice (some ⟨b, 0, none⟩) n cb, .slice (some ⟨b, 0, none⟩) n cb] 24)).cell? ⟨wq.heap.size, 0, none⟩ = some (.string ⟨#[97]⟩) from ((((G.refl (wq.alloc (.cells #[.string ⟨#[97]⟩, .int .i64 (-300), .int .i64 pan, .bool false] 35))).alloc _).alloc _).alloc _).cell (World.cell?_alloc_at _ _ _ _ rfl))
      have ka1 := Lib.hid (show ((((wq.alloc (.cells #[.string ⟨#[97]⟩, .int .i64 (-300), .int .i64 pan, .bool false] 35)).alloc (.cells #[.string ⟨#[98]⟩, .int .i64 0, .int .i64 0, .bool true] 35)).alloc (.cells #[.string ⟨#[97]⟩, .int .i64 (-300), .int .i64 pan, .bool false, .string ⟨#[98]⟩, .int .i64 0, .int .i64 0, .bool true] 35)).alloc (.cells #[.slice (some ⟨b, 0, none⟩) n cb, .slice (some ⟨b, 0, none⟩) n cb] 24)).cell? ⟨wq.heap.size, 1, none⟩ = some (.int .i64 (-300)) from ((((G.refl (wq.alloc (.cells #[.string ⟨#[97]⟩, .int .i64 (-300), .int .i64 pan, .bool false] 35))).alloc _).alloc _).alloc _).cell (World.cell?_alloc_at _ _ _ _ rfl))
      have ka2 := Lib.hid (show ((((wq.alloc (.cells #[.string ⟨#[97]⟩, .int .i64 (-300), .int .i64 pan, .bool false] 35)).alloc (.cells #[.string ⟨#[98]⟩, .int .i64 0, .int .i64 0, .bool true] 35)).alloc (.cells #[.string ⟨#[97]⟩, .int .i64 (-300), .int .i64 pan, .bool false, .string ⟨#[98]⟩, .int .i64 0, .int .i64 0, .bool true] 35)).alloc (.cells #[.slice (some ⟨b, 0, none⟩) n cb, .slice (some ⟨b, 0, none⟩) n cb] 24)).cell? ⟨wq.heap.size, 2, none⟩ = some (.int .i64 pan) from ((((G.refl (wq.alloc (.cells #[.string ⟨#[97]⟩, .int .i64 (-300), .int .i64 pan, .bool false] 35))).alloc _).alloc _).alloc _).cell (World.cell?_alloc_at _ _ _ _ rfl))
      have ka3 := Lib.hid (show ((((wq.alloc (.cells #[.string ⟨#[97]⟩, .int .i64 (-300), .int .i64 pan, .bool false] 35)).alloc (.cells #[.string ⟨#[98]⟩, .int .i64 0, .int .i64 0, .bool true] 35)).alloc (.cells #[.string ⟨#[97]⟩, .int .i64 (-300), .int .i64 pan, .bool false, .string ⟨#[98]⟩, .int .i64 0, .int .i64 0, .bool true] 35)).alloc (.cells #[.slice (some ⟨b, 0, none⟩) n cb, .slice (some ⟨b, 0, none⟩) n cb] 24)).cell? ⟨wq.heap.size, 3, none⟩ = some (.bool false) from ((((G.refl (wq.alloc (.cells #[.string ⟨#[97]⟩, .int .i64 (-300), .int .i64 pan, .bool false] 35))).alloc _).alloc _).alloc _).cell (World.cell?_alloc_at _ _ _ _ rfl))
      have kb0 := Lib.hid (show ((((wq.alloc (.cells #[.string ⟨#[97]⟩, .int .i64 (-300), .int .i64 pan, .bool false] 35)).alloc (.cells #[.string ⟨#[98]⟩, .int .i64 0, .int .i64 0, .bool true] 35)).alloc (.cells #[.string ⟨#[97]⟩, .int .i64 (-300), .int .i64 pan, .bool false, .string ⟨#[98]⟩, .int .i64 0, .int .i64 0, .bool true] 35)).alloc (.cells #[.slice (some ⟨b, 0, none⟩) n cb, .slice (some ⟨b, 0, none⟩) n cb] 24)).cell? ⟨wq.heap.size + 1, 0, none⟩ = some (.string ⟨#[98]⟩) from by have q : ((wq.alloc (.cells #[.string ⟨#[97]⟩, .int .i64 (-300), .int .i64 pan, .bool false] 35)).alloc (.cells #[.string ⟨#[98]⟩, .int .i64 0, .int .i64 0, .bool true] 35)).cell? ⟨(wq.alloc (.cells #[.string ⟨#[97]⟩, .int .i64 (-300), .int .i64 pan, .bool false] 35)).heap.size, 0, none⟩ = some (.string ⟨#[98]⟩) := World.cell?_alloc_at _ _ _ _ rfl; rw [za] at q; exact (((G.refl ((wq.alloc (.cells #[.string ⟨#[97]⟩, .int .i64 (-300), .int .i64 pan, .bool false] 35)).alloc (.cells #[.string ⟨#[98]⟩, .int .i64 0, .int .i64 0, .bool true] 35))).alloc _).alloc _).cell q)
      have kb1 := Lib.hid (show ((((wq.alloc (.cells #[.string ⟨#[97]⟩, .int .i64 (-300), .int .i64 pan, .bool false] 35)).alloc (.cells #[.string ⟨#[98]⟩, .int .i64 0, .int .i64 0, .bool true] 35)).alloc (.cells #[.string ⟨#[97]⟩, .int .i64 (-300), .int .i64 pan, .bool false, .string ⟨#[98]⟩, .int .i64 0, .int .i64 0, .bool true] 35)).alloc (.cells #[.slice (some ⟨b, 0, none⟩) n cb, .slice (some ⟨b, 0, none⟩) n cb] 24)).cell? ⟨wq.heap.size + 1, 1, none⟩ = some (.int .i64 0) from by have q : ((wq.alloc (.cells #[.string ⟨#[97]⟩, .int .i64 (-300), .int .i64 pan, .bool false] 35)).alloc (.cells #[.string ⟨#[98]⟩, .int .i64 0, .int .i64 0, .bool true] 35)).cell? ⟨(wq.alloc (.cells #[.string ⟨#[97]⟩, .int .i64 (-300), .int .i64 pan, .bool false] 35)).heap.size, 1, none⟩ = some (.int .i64 0) := World.cell?_alloc_at _ _ _ _ rfl; rw [za] at q; exact (((G.refl ((wq.alloc (.cells #[.string ⟨#[97]⟩, .int .i64 (-300), .int .i64 pan, .bool false] 35)).alloc (.cells #[.string ⟨#[98]⟩, .int .i64 0, .int .i64 0, .bool true] 35))).alloc _).alloc _).cell q)
      have kb2 := Lib.hid (show ((((wq.alloc (.cells #[.string ⟨#[97]⟩, .int .i64 (-300), .int .i64 pan, .bool false] 35)).alloc (.cells #[.string ⟨#[98]⟩, .int .i64 0, .int .i64 0, .bool true] 35)).alloc (.cells #[.string ⟨#[97]⟩, .int .i64 (-300), .int .i64 pan, .bool false, .string ⟨#[98]⟩, .int .i64 0, .int .i64 0, .bool true] 35)).alloc (.cells #[.slice (some ⟨b, 0, none⟩) n cb, .slice (some ⟨b, 0, none⟩) n cb] 24)).cell? ⟨wq.heap.size + 1, 2, none⟩ = some (.int .i64 0) from by have q : ((wq.alloc (.cells #[.string ⟨#[97]⟩, .int .i64 (-300), .int .i64 pan, .bool false] 35)).alloc (.cells #[.string ⟨#[98]⟩, .int .i64 0, .int .i64 0, .bool true] 35)).cell? ⟨(wq.alloc (.cells #[.string ⟨#[97]⟩, .int .i64 (-300), .int .i64 pan, .bool false] 35)).heap.size, 2, none⟩ = some (.int .i64 0) := World.cell?_alloc_at _ _ _ _ rfl; rw [za] at q; exact (((G.refl ((wq.alloc (.cells #[.string ⟨#[97]⟩, .int .i64 (-300), .int .i64 pan, .bool false] 35)).alloc (.cells #[.string ⟨#[98]⟩, .int .i64 0, .int .i64 0, .bool true] 35))).alloc _).alloc _).cell q)
      have kb3 := Lib.hid (show ((((wq.alloc (.cells #[.string ⟨#[97]⟩, .int .i64 (-300), .int .i64 pan, .bool false] 35)).alloc (.cells #[.string ⟨#[98]⟩, .int .i64 0, .int .i64 0, .bool true] 35)).alloc (.cells #[.string ⟨#[97]⟩, .int .i64 (-300), .int .i64 pan, .bool false, .string ⟨#[98]⟩, .int .i64 0, .int .i64 0, .bool true] 35)).alloc (.cells #[.slice (some ⟨b, 0, none⟩) n cb, .slice (some ⟨b, 0, none⟩) n cb] 24)).cell? ⟨wq.heap.size + 1, 3, none⟩ = some (.bool true) from by have q : ((wq.alloc (.cells #[.string ⟨#[97]⟩, .int .i64 (-300), .int .i64 pan, .bool false] 35)).alloc (.cells #[.string ⟨#[98]⟩, .int .i64 0, .int .i64 0, .bool true] 35)).cell? ⟨(wq.alloc (.cells #[.string ⟨#[97]⟩, .int .i64 (-300), .int .i64 pan, .bool false] 35)).heap.size, 3, none⟩ = some (.bool true) := World.cell?_alloc_at _ _ _ _ rfl; rw [za] at q; exact (((G.refl ((wq.alloc (.cells #[.string ⟨#[97]⟩, .int .i64 (-300), .int .i64 pan, .bool false] 35)).alloc (.cells #[.string ⟨#[98]⟩, .int .i64 0, .int .i64 0, .bool true] 35))).alloc _).alloc _).cell q)
      have gd := GD.out
      clear za zb zc
      replace RM := Lib.hid (RM.out.G gd)
      replace OM := Lib.hid (own_G OM.out gd)
      replace O6 := Lib.hid (own_G O6.out gd)
      have G8 := Lib.hid (G7.out.trans gd)
      clear gd G7
      clear GD
      go_wp2_with fail
      refine (iMixSamples_any _ 2 2 [chA pan, chB] _ 2 2 [M, M] _ (HTb.out.G G8.out) RCH.out rfl (by omega) HWF2.out RRW.out rfl (by omega) (fun r hr => by have hr2 : r = M := (by simpa using hr); rw [hr2, Hn.out]; omega)).mono ?_
      rw [MX2.out]
      intro e w9 hT
      obtain ⟨AL, cl, AR, cr, rfl, g9, ol, or_⟩ := res2_of hT
      clear hT
      rw [HNL.out] at ol
      rw [HNR.out] at or_
      rw [HNL.out, HNR.out]
      replace RM := Lib.hid (RM.out.G g9)
      replace OM := Lib.hid (own_G OM.out g9)
      replace O6 := Lib.hid (own_G O6.out g9)
      replace ka0 := Lib.hid (g9.cell ka0.out)
      replace ka1 := Lib.hid (g9.cell ka1.out)
      replace ka2 := Lib.hid (g9.cell ka2.out)
      replace ka3 := Lib.hid (g9.cell ka3.out)
      replace kb0 := Lib.hid (g9.cell kb0.out)
      replace kb1 := Lib.hid (g9.cell kb1.out)
      replace kb2 := Lib.hid (g9.cell kb2.out)
      replace kb3 := Lib.hid (g9.cell kb3.out)
      have G9 := Lib.hid (G8.out.trans g9)
      clear g9 G8
      have OL := Lib.hid ol
      have ORR := Lib.hid or_
      clear ol or_ RCH RRW MX2 hwx HPAN
      dsimp only
      have za : (w9.alloc (.cells #[.string ⟨#[97]⟩, .int .i64 (-300), .int .i64 pan, .bool false] 35)).heap.size = w9.heap.size + 1 := by simp
      have gd := ((G.refl w9).alloc (.cells #[.string ⟨#[97]⟩, .int .i64 (-300), .int .i64 pan, .bool false] 35)).alloc (.cells #[.slice (some ⟨b, 0, none⟩) n cb] 24)
      have RCH := Lib.hid (show Rd ((w9.alloc (.cells #[.string ⟨#[97]⟩, .int .i64 (-300), .int .i64 pan, .bool false] 35)).alloc (.cells #[.slice (some ⟨b, 0, none⟩) n cb] 24)) (some ⟨w9.heap.size, 0, none⟩) 4 cChannel [chA pan] from Rd.G (rd_blk (f := cChannel) (sz := 4) w9 [chA pan] 35 cChannel_len (by decide) (by show (1 : Nat) ≤ 100; decide)) ((G.refl (w9.alloc (.cells #[.string ⟨#[97]⟩, .int .i64 (-300), .int .i64 pan, .bool false] 35))).alloc _))
      have RRW := Lib.hid (show RdR ((w9.alloc (.cells #[.string ⟨#[97]⟩, .int .i64 (-300), .int .i64 pan, .bool false] 35)).alloc (.cells #[.slice (some ⟨b, 0, none⟩) n cb] 24)) (some ⟨w9.heap.size + 1, 0, none⟩) [M] from by
        have q := rdR_one (w9.alloc (.cells #[.string ⟨#[97]⟩, .int .i64 (-300), .int .i64 pan, .bool false] 35)) (some ⟨b, 0, none⟩) n cb M 24 Hn.out hcap (RM.out.G ((G.refl w9).alloc _))
        rw [za] at q
        exact q)
      have qka0 := ka0.out
      have qka1 := ka1.out
      have qka2 := ka2.out
      have qka3 := ka3.out
      clear za
      go_wp2_with fail
      clear qka0 qka1 qka2 qka3
      replace RM := Lib.hid (RM.out.G gd)
      replace OM := Lib.hid (own_G OM.out gd)
      replace O6 := Lib.hid (own_G O6.out gd)
      replace OL := Lib.hid (own_G OL.out gd)
      replace ORR := Lib.hid (own_G ORR.out gd)
      replace ka0 := Lib.hid (gd.cell ka0.out)
      replace ka1 := Lib.hid (gd.cell ka1.out)
      replace ka2 := Lib.hid (gd.cell ka2.out)
      replace ka3 := Lib.hid (gd.cell ka3.out)
      replace kb0 := Lib.hid (gd.cell kb0.out)
      replace kb1 := Lib.hid (gd.cell kb1.out)
      replace kb2 := Lib.hid (gd.cell kb2.out)
      replace kb3 := Lib.hid (gd.cell kb3.out)
      have G10 := Lib.hid (G9.out.trans gd)
      clear gd G9
      refine (iMixSamples_any _ 1 1 [chA pan] _ 1 1 [M] _ (HTb.out.G G10.out) RCH.out rfl (by omega) HWF1.out RRW.out rfl (by omega) (fun r hr => by have hr2 : r = M := (by simpa using hr); rw [hr2, Hn.out]; omega)).mono ?_
      rw [MX1.out]
      intro e w11 hT
      obtain ⟨BL, dl, BR, dr, rfl, g11, ol, or_⟩ := res2_of hT
      clear hT
      rw [HNL.out] at ol
      rw [HNR.out] at or_
      rw [HNL.out, HNR.out]
      replace RM := Lib.hid (RM.out.G g11)
      replace OM := Lib.hid (own_G OM.out g11)
      replace O6 := Lib.hid (own_G O6.out g11)
      replace OL := Lib.hid (own_G OL.out g11)
      replace ORR := Lib.hid (own_G ORR.out g11)
      replace ka0 := Lib.hid (g11.cell ka0.out)
      replace ka1 := Lib.hid (g11.cell ka1.out)
      replace ka2 := Lib.hid (g11.cell ka2.out)
      replace ka3 := Lib.hid (g11.cell ka3.out)
      replace kb0 := Lib.hid (g11.cell kb0.out)
      replace kb1 := Lib.hid (g11.cell kb1.out)
      replace kb2 := Lib.hid (g11.cell kb2.out)
      replace kb3 := Lib.hid (g11.cell kb3.out)
      have G11 := Lib.hid (G10.out.trans g11)
      clear g11 G10
      have PLO := Lib.hid ol
      have PRO := Lib.hid or_
      clear ol or_ RCH RRW MX1
      dsimp only
      have qka0 := ka0.out
      have qka1 := ka1.out
      have qka2 := ka2.out
      have qka3 := ka3.out
      have qkb0 := kb0.out
      have qkb1 := kb1.out
      have qkb2 := kb2.out
      have qkb3 := kb3.out
      go_wp2_with fail
      clear qka0 qka1 qka2 qka3 qkb0 qkb1 qkb2 qkb3
      have RCH := Lib.hid (rd_blk (f := cChannel) (sz := 4) w11 [chA pan, chB] 35 cChannel_len (by decide) (by show (2 : Nat) ≤ 100; decide))
      have gd := (G.refl w11).alloc (.cells #[.string ⟨#[97]⟩, .int .i64 (-300), .int .i64 pan, .bool false, .string ⟨#[98]⟩, .int .i64 0, .int .i64 0, .bool true] 35)
      replace RM := Lib.hid (RM.out.G gd)
      replace OM := Lib.hid (own_G OM.out gd)
      replace O6 := Lib.hid (own_G O6.out gd)
      replace OL := Lib.hid (own_G OL.out gd)
      replace ORR := Lib.hid (own_G ORR.out gd)
      replace PLO := Lib.hid (own_G PLO.out gd)
      replace PRO := Lib.hid (own_G PRO.out gd)
      replace ka0 := Lib.hid (gd.cell ka0.out)
      replace ka1 := Lib.hid (gd.cell ka1.out)
      replace ka2 := Lib.hid (gd.cell ka2.out)
      replace ka3 := Lib.hid (gd.cell ka3.out)
      replace kb0 := Lib.hid (gd.cell kb0.out)
      replace kb1 := Lib.hid (gd.cell kb1.out)
      replace kb2 := Lib.hid (gd.cell kb2.out)
      replace kb3 := Lib.hid (gd.cell kb3.out)
      have G12 := Lib.hid (G11.out.trans gd)
      clear gd G11
      refine (iAudibleChannels_any _ 2 2 [chA pan, chB] _ RCH.out rfl (by omega) HWF2.out).mono ?_
      rw [AU.out]
      intro e w13 hT
      obtain ⟨AN, cn, rfl, g13, -⟩ := resS_of hT
      clear hT RCH AU
      replace RM := Lib.hid (RM.out.G g13)
      replace OM := Lib.hid (own_G OM.out g13)
      replace O6 := Lib.hid (own_G O6.out g13)
      replace OL := Lib.hid (own_G OL.out g13)
      replace ORR := Lib.hid (own_G ORR.out g13)
      replace PLO := Lib.hid (own_G PLO.out g13)
      replace PRO := Lib.hid (own_G PRO.out g13)
      replace ka0 := Lib.hid (g13.cell ka0.out)
      replace ka1 := Lib.hid (g13.cell ka1.out)
      replace ka2 := Lib.hid (g13.cell ka2.out)
      replace ka3 := Lib.hid (g13.cell ka3.out)
      replace kb0 := Lib.hid (g13.cell kb0.out)
      replace kb1 := Lib.hid (g13.cell kb1.out)
      replace kb2 := Lib.hid (g13.cell kb2.out)
      replace kb3 := Lib.hid (g13.cell kb3.out)
      have G13 := Lib.hid (G12.out.trans g13)
      clear g13 G12
      dsimp only [List.length_cons, List.length_nil]
      have HCT := Lib.hid (show chTx (chA pan) = chT (chA pan) by unfold chTx; rw [if_pos HVB.out])
      have HSZ := Lib.hid (chT_sz hpn.1 hpn.2)
      have HRC := Lib.hid (show rcR (chT (chA pan)) = (chA pan, true) from rcR_of ⟨HVB.out, rfl⟩)
      obtain ⟨s, HS⟩ : ∃ s, Hid (chT (chA pan) = s) := ⟨_, rfl⟩
      rw [HS.out] at HCT HSZ HRC
      have KRC := Lib.hid (fun (W : World) (gw : G w W) => (show Calls Tryd.prog 16 #[.string s] W (fun e w' => e = .returned (.tuple #[.agg #[.string ⟨#[97]⟩, .int .i64 (-300), .int .i64 pan, .bool false], .bool true]) ∧ G W w') from by
        have q := iReadChannel_any s W HSZ.out (HE.out.G gw)
        rw [HRC.out] at q
        exact q))
      have KCT := Lib.hid (fun (W : World) (gw : G w W) => (show Calls Tryd.prog 17 #[.agg #[.string ⟨#[97]⟩, .int .i64 (-300), .int .i64 pan, .bool false]] W (fun e w' => e = .returned (.string s) ∧ G W w') from by
        have q := iChannelText_any (chA pan) W HWFA.out (HE.out.G gw).tab
        rw [HCT.out] at q
        exact q))
      have qka0 := ka0.out
      have qka1 := ka1.out
      have qka2 := ka2.out
      have qka3 := ka3.out
      go_wp2_with fail
      clear qka0 qka1 qka2 qka3
      refine (KCT.out _ G13.out).mono ?_
      rintro e w14 ⟨rfl, g14⟩
      replace RM := Lib.hid (RM.out.G g14)
      replace OM := Lib.hid (own_G OM.out g14)
      replace O6 := Lib.hid (own_G O6.out g14)
      replace OL := Lib.hid (own_G OL.out g14)
      replace ORR := Lib.hid (own_G ORR.out g14)
      replace PLO := Lib.hid (own_G PLO.out g14)
      replace PRO := Lib.hid (own_G PRO.out g14)
      replace ka0 := Lib.hid (g14.cell ka0.out)
      replace ka1 := Lib.hid (g14.cell ka1.out)
      replace ka2 := Lib.hid (g14.cell ka2.out)
      replace ka3 := Lib.hid (g14.cell ka3.out)
      replace kb0 := Lib.hid (g14.cell kb0.out)
      replace kb1 := Lib.hid (g14.cell kb1.out)
      replace kb2 := Lib.hid (g14.cell kb2.out)
      replace kb3 := Lib.hid (g14.cell kb3.out)
      have G14 := Lib.hid (G13.out.trans g14)
      clear g14 G13
      dsimp only
      go_wp2_with fail
      refine (KRC.out _ G14.out).mono ?_
      rintro e w15 ⟨rfl, g15⟩
      replace RM := Lib.hid (RM.out.G g15)
      replace OM := Lib.hid (own_G OM.out g15)
      replace O6 := Lib.hid (own_G O6.out g15)
      replace OL := Lib.hid (own_G OL.out g15)
      replace ORR := Lib.hid (own_G ORR.out g15)
      replace PLO := Lib.hid (own_G PLO.out g15)
      replace PRO := Lib.hid (own_G PRO.out g15)
      replace ka0 := Lib.hid (g15.cell ka0.out)
      replace ka1 := Lib.hid (g15.cell ka1.out)
      replace ka2 := Lib.hid (g15.cell ka2.out)
      replace ka3 := Lib.hid (g15.cell ka3.out)
      replace kb0 := Lib.hid (g15.cell kb0.out)
      replace kb1 := Lib.hid (g15.cell kb1.out)
      replace kb2 := Lib.hid (g15.cell kb2.out)
      replace kb3 := Lib.hid (g15.cell kb3.out)
      have G15 := Lib.hid (G14.out.trans g15)
      clear g15 G14
      dsimp only
      clear KCT KRC HCT HSZ HRC HS
      have gd := (G.refl w15).alloc (.cells #[.string ⟨#[97]⟩, .int .i64 (-300), .int .i64 pan, .bool false] 35)
      replace RM := Lib.hid (RM.out.G gd)
      replace OM := Lib.hid (own_G OM.out gd)
      replace O6 := Lib.hid (own_G O6.out gd)
      replace OL := Lib.hid (own_G OL.out gd)
      replace ORR := Lib.hid (own_G ORR.out gd)
      replace PLO := Lib.hid (own_G PLO.out gd)
      replace PRO := Lib.hid (own_G PRO.out gd)
      replace ka0 := Lib.hid (gd.cell ka0.out)
      replace ka1 := Lib.hid (gd.cell ka1.out)
      replace ka2 := Lib.hid (gd.cell ka2.out)
      replace ka3 := Lib.hid (gd.cell ka3.out)
      replace kb0 := Lib.hid (gd.cell kb0.out)
      replace kb1 := Lib.hid (gd.cell kb1.out)
      replace kb2 := Lib.hid (gd.cell kb2.out)
      replace kb3 := Lib.hid (gd.cell kb3.out)
      have G16 := Lib.hid (G15.out.trans gd)
      clear gd G15
      go_wp2_with fail
      refine (r8Same_any _ _ n _ _ PL _ (rd_ints OL.out) (rd_ints PLO.out) HNL.out (by omega)).mono ?_
      rintro e w17 ⟨rfl, g17⟩
      have kc0 := Lib.hid (show ((w15.alloc (.cells #[.string ⟨#[97]⟩, .int .i64 (-300), .int .i64 pan, .bool false] 35))).cell? ⟨w15.heap.size, 0, none⟩ = some (.string ⟨#[97]⟩) from World.cell?_alloc_at _ _ _ _ rfl)
      have kc1 := Lib.hid (show ((w15.alloc (.cells #[.string ⟨#[97]⟩, .int .i64 (-300), .int .i64 pan, .bool false] 35))).cell? ⟨w15.heap.size, 1, none⟩ = some (.int .i64 (-300)) from World.cell?_alloc_at _ _ _ _ rfl)
      have kc2 := Lib.hid (show ((w15.alloc (.cells #[.string ⟨#[97]⟩, .int .i64 (-300), .int .i64 pan, .bool false] 35))).cell? ⟨w15.heap.size, 2, none⟩ = some (.int .i64 pan) from World.cell?_alloc_at _ _ _ _ rfl)
      have kc3 := Lib.hid (show ((w15.alloc (.cells #[.string ⟨#[97]⟩, .int .i64 (-300), .int .i64 pan, .bool false] 35))).cell? ⟨w15.heap.size, 3, none⟩ = some (.bool false) from World.cell?_alloc_at _ _ _ _ rfl)
      replace RM := Lib.hid (RM.out.G g17)
      replace OM := Lib.hid (own_G OM.out g17)
      replace O6 := Lib.hid (own_G O6.out g17)
      replace OL := Lib.hid (own_G OL.out g17)
      replace ORR := Lib.hid (own_G ORR.out g17)
      replace PLO := Lib.hid (own_G PLO.out g17)
      replace PRO := Lib.hid (own_G PRO.out g17)
      replace ka0 := Lib.hid (g17.cell ka0.out)
      replace ka1 := Lib.hid (g17.cell ka1.out)
      replace ka2 := Lib.hid (g17.cell ka2.out)
      replace ka3 := Lib.hid (g17.cell ka3.out)
      replace kb0 := Lib.hid (g17.cell kb0.out)
      replace kb1 := Lib.hid (g17.cell kb1.out)
      replace kb2 := Lib.hid (g17.cell kb2.out)
      replace kb3 := Lib.hid (g17.cell kb3.out)
      replace kc0 := Lib.hid (g17.cell kc0.out)
      replace kc1 := Lib.hid (g17.cell kc1.out)
      replace kc2 := Lib.hid (g17.cell kc2.out)
      replace kc3 := Lib.hid (g17.cell kc3.out)
      have G17 := Lib.hid (G16.out.trans g17)
      clear g17 G16
      dsimp only
      go_wp2_with fail
      refine (r8Same_any _ _ n _ _ PR _ (rd_ints ORR.out) (rd_ints PRO.out) HNR.out (by omega)).mono ?_
      rintro e w18 ⟨rfl, g18⟩
      replace RM := Lib.hid (RM.out.G g18)
      replace OM := Lib.hid (own_G OM.out g18)
      replace O6 := Lib.hid (own_G O6.out g18)
      replace OL := Lib.hid (own_G OL.out g18)
      replace ORR := Lib.hid (own_G ORR.out g18)
      replace PLO := Lib.hid (own_G PLO.out g18)
      replace PRO := Lib.hid (own_G PRO.out g18)
      replace ka0 := Lib.hid (g18.cell ka0.out)
      replace ka1 := Lib.hid (g18.cell ka1.out)
      replace ka2 := Lib.hid (g18.cell ka2.out)
      replace ka3 := Lib.hid (g18.cell ka3.out)
      replace kb0 := Lib.hid (g18.cell kb0.out)
      replace kb1 := Lib.hid (g18.cell kb1.out)
      replace kb2 := Lib.hid (g18.cell kb2.out)
      replace kb3 := Lib.hid (g18.cell kb3.out)
      replace kc0 := Lib.hid (g18.cell kc0.out)
      replace kc1 := Lib.hid (g18.cell kc1.out)
      replace kc2 := Lib.hid (g18.cell kc2.out)
      replace kc3 := Lib.hid (g18.cell kc3.out)
      have G18 := Lib.hid (G17.out.trans g18)
      clear g18 G17
      dsimp only
      have qka0 := ka0.out
      have qka1 := ka1.out
      have qka2 := ka2.out
      have qka3 := ka3.out
      have qkc0 := kc0.out
      have qkc1 := kc1.out
      have qkc2 := kc2.out
      have qkc3 := kc3.out
      go_wp2
      clear qka0 qka1 qka2 qka3 qkc0 qkc1 qkc2 qkc3
      go_loopw [30] (fun i wr => ∃ k : Nat, k ≤ n ∧ i = .int .i64 (k : Int) ∧ Hid (G w18 wr)) (fun i _ => n - (intOf i).toNat)
      case atStart => exact ⟨0, Nat.zero_le _, rfl, Lib.hid (G.refl _)⟩
      case round =>
        obtain ⟨k, hk, rfl, GR3⟩ := hrel
        have hk0 : (0 : Int) ≤ (k : Int) := by omega
        by_cases hlt : k < n
        · have hlt2 : (k : Int) < (n : Int) := by omega
          obtain ⟨b3, o3, l, rfl, hl, hcl⟩ := (rd_ints (own_G OL.out GR3.out)).int (k := k) (by rw [HNL.out]; exact hlt)
          obtain ⟨b4, o4, r, rfl, hr, hcr⟩ := (rd_ints (own_G ORR.out GR3.out)).int (k := k) (by rw [HNR.out]; exact hlt)
          obtain ⟨b5, o5, x5, hb5, hx, hcx⟩ := (RM.out.G GR3.out).int (k := k) (by rw [Hn.out]; exact hlt)
          obtain ⟨rfl, rfl⟩ : b = b5 ∧ 0 = o5 := by simpa using hb5
          rw [Nat.zero_add] at hcx
          have hxb := vs_at HVS.out hx
          rw [← HPL.out, List.getElem?_map, hx] at hl
          rw [← HPR.out, List.getElem?_map, hx] at hr
          obtain rfl : fl x5 = l := Option.some.inj hl
          obtain rfl : fr x5 = r := Option.some.inj hr
          have e1 := HLE.out x5
          have e2 := HRE.out x5
          obtain ⟨vl, HVL⟩ : ∃ z, Hid (fl x5 = z) := ⟨_, rfl⟩
          obtain ⟨vr, HVR⟩ : ∃ z, Hid (fr x5 = z) := ⟨_, rfl⟩
          rw [HVL.out] at e1 hcl
          rw [HVR.out] at e2 hcr
          have K1 := Lib.hid (fun (W : World) => r8Abs_any vl (by omega) (by omega) W)
          have K2 := Lib.hid (fun (W : World) => r8Abs_any vr (by omega) (by omega) W)
          have K3 := Lib.hid (fun (W : World) => r8Abs_any x5 (by omega) (by omega) W)
          obtain ⟨ya, HYA⟩ : ∃ z, Hid (max vl (-vl) = z) := ⟨_, rfl⟩
          obtain ⟨yc, HYC⟩ : ∃ z, Hid (max vr (-vr) = z) := ⟨_, rfl⟩
          obtain ⟨yb, HYB⟩ : ∃ z, Hid (max x5 (-x5) = z) := ⟨_, rfl⟩
          have hyb : 0 ≤ yb ∧ yb ≤ 32767 := by rw [← HYB.out]; omega
          rw [HYA.out] at K1 e1
          rw [HYC.out] at K2 e2
          rw [HYB.out] at K3 e1 e2
          have d1 : decide (yb + 1 < ya) = false := by simp; omega
          have d2 : decide (yb + 1 < yc) = false := by simp; omega
          have d3 : IntKind.i64.wrap (yb + 1) = yb + 1 := IntWalk.i64_in _ (by omega)
          have q0 := cellR hcl
          have q1 := cellR hcr
          have q2 := cellR hcx
          clear hl hr hx hb5 hcl hcr hcx hxb e1 e2 hlt
          go_wp2
          refine region_quiet_G (by kernel_rfl) (by kernel_rfl) ?_; (repeat (go_big_quiet_step (((first | (go_at_call 18; exact quiet_G_same (K1.out _)) | (go_at_call 18; exact quiet_G_same (K2.out _)) | (go_at_call 18; exact quiet_G_same (K3.out _))))))); refine wpQuiet_nil ?_
          intro wz gz
          have GZ := Lib.hid (GR3.out.trans gz)
          clear gz q0 q1 q2 K1 K2 K3 d1 d2 d3 hyb
          go_wp2
          go_roundw
          case rel => exact ⟨k + 1, by omega, by go_num, GZ⟩
          case measure => simp [intOf]; omega
        · obtain rfl : k = n := by omega
          have hnl : ¬ ((k : Int) < (k : Int)) := by omega
          go_wp2
          go_ret
          exact ⟨rfl, G18.out.trans GR3.out⟩
end Go.Proofs.YtmcddcdhppomkaaDoor
