/-
  Walks: the text of a cue, by both texts.
-/
import Derived.Test.YtecakcgkibemaaaGreatDoorDecI
import Derived.Test.YtecakcgkibemaaaGreatDoorCues
import Derived.Test.YtecakcgkibemaaaGreatDoorIns
namespace Go.Proofs.YtecakcgkibemaaaGreatDoor
open Go.RowKit

def cueB (x : SCue) : ByteArray := x.Id ++ ⟨#[32]⟩ ++ dec x.Time ++ ⟨#[32]⟩ ++ x.Target
def cueT (x : SCue) : ByteArray :=
  if x.Action = 1 then cueB x ++ ⟨#[32, 115, 101, 116, 32]⟩ ++ dec x.Value
  else if x.Action = 2 then cueB x ++ ⟨#[32, 102, 97, 100, 101, 32]⟩ ++ dec x.Value ++ ⟨#[32]⟩ ++ dec x.Length
  else cueB x ++ ⟨#[32, 115, 116, 111, 112]⟩
theorem vcuB_nm {x : SCue} (h : vcuB x = true) : x.Id.size ≤ 100 ∧ x.Target.size ≤ 100 := by
  have k := vcuB_names h
  have h1 := nameB_size k.1
  have h2 := nameB_size k.2
  omega
theorem cueT_size {x : SCue} (h : vcuB x = true) : (cueT x).size ≤ 1000 := by
  have hn := vcuB_nm h
  have hb := vcuB_bd h
  have d1 := dec_len x.Time (by omega) (by omega)
  have d2 := dec_len x.Value (by omega) (by omega)
  have d3 := dec_len x.Length (by omega) (by omega)
  have s1 : (ByteArray.mk #[32]).size = 1 := rfl
  have s2 : (ByteArray.mk #[32, 115, 101, 116, 32]).size = 5 := rfl
  have s3 : (ByteArray.mk #[32, 102, 97, 100, 101, 32]).size = 6 := rfl
  have s4 : (ByteArray.mk #[32, 115, 116, 111, 112]).size = 5 := rfl
  unfold cueT cueB
  split
  · simp only [ByteArray.size_append, s1, s2]; omega
  · split
    · simp only [ByteArray.size_append, s1, s3]; omega
    · simp only [ByteArray.size_append, s1, s4]; omega

set_option maxRecDepth 20000 in
set_option maxHeartbeats 4000000 in
theorem iCueText_yes (x : SCue) (hv : vcuB x = true) (hw : WfCue x) (w : World) (ht : TabP w) :
    Calls Tryz.prog 21 #[.agg #[.string x.Id, .int .i64 x.Time, .int .i64 x.Length, .string x.Target, .int .i64 x.Action, .int .i64 x.Value]] w fun e w' => e = .returned (.string (cueT x)) ∧ G w w' := by
  have K := Lib.hid (fun W => ValidCue_any x W hw)
  rw [hv] at K
  have HT := Lib.hid ht
  have OB := Lib.hid (own_new (w := w) (base := w.heap.size) (n := 1) (cap := 1) (size := 6) (e := 49) (cur := #[.string x.Id, .int .i64 x.Time, .int .i64 x.Length, .string x.Target, .int .i64 x.Action, .int .i64 x.Value]) (Nat.le_refl _) (by decide) (by decide) rfl)
  have GB := Lib.hid ((G.refl w).alloc (.cells #[.string x.Id, .int .i64 x.Time, .int .i64 x.Length, .string x.Target, .int .i64 x.Action, .int .i64 x.Value] 49))
  have hb := vcuB_bd hv
  have hns := vcuB_nm hv
  have d1 := dec_len x.Time (by omega) (by omega)
  have d2 := dec_len x.Value (by omega) (by omega)
  have d3 := dec_len x.Length (by omega) (by omega)
  have K1 := Lib.hid (fun (W : World) (g : G w W) => Decimal_any x.Time (by omega) (by omega) W (HT.out.G g))
  have K2 := Lib.hid (fun (W : World) (g : G w W) => Decimal_any x.Value (by omega) (by omega) W (HT.out.G g))
  have K3 := Lib.hid (fun (W : World) (g : G w W) => Decimal_any x.Length (by omega) (by omega) W (HT.out.G g))
  have HD := Lib.hid (show cueT x = if x.Action = 1 then x.Id ++ ⟨#[32]⟩ ++ dec x.Time ++ ⟨#[32]⟩ ++ x.Target ++ ⟨#[32, 115, 101, 116, 32]⟩ ++ dec x.Value else if x.Action = 2 then x.Id ++ ⟨#[32]⟩ ++ dec x.Time ++ ⟨#[32]⟩ ++ x.Target ++ ⟨#[32, 102, 97, 100, 101, 32]⟩ ++ dec x.Value ++ ⟨#[32]⟩ ++ dec x.Length else x.Id ++ ⟨#[32]⟩ ++ dec x.Time ++ ⟨#[32]⟩ ++ x.Target ++ ⟨#[32, 115, 116, 111, 112]⟩ from rfl)
  obtain ⟨D1, HD1⟩ : ∃ D, Hid (dec x.Time = D) := ⟨_, rfl⟩
  obtain ⟨D2, HD2⟩ : ∃ D, Hid (dec x.Value = D) := ⟨_, rfl⟩
  obtain ⟨D3, HD3⟩ : ∃ D, Hid (dec x.Length = D) := ⟨_, rfl⟩
  rw [HD1.out] at K1 HD d1
  rw [HD2.out] at K2 HD d2
  rw [HD3.out] at K3 HD d3
  obtain ⟨T, HTT⟩ : ∃ T, Hid (cueT x = T) := ⟨_, rfl⟩
  rw [HTT.out] at HD ⊢
  have s1 : (ByteArray.mk #[32]).size = 1 := rfl
  have s2 : (ByteArray.mk #[32, 115, 101, 116, 32]).size = 5 := rfl
  have s3 : (ByteArray.mk #[32, 102, 97, 100, 101, 32]).size = 6 := rfl
  have s4 : (ByteArray.mk #[32, 115, 116, 111, 112]).size = 5 := rfl
  obtain ⟨nm, t, ln, tg, ac, vl⟩ := x
  simp only at hns K1 K2 K3 HD OB GB K hb ⊢
  have hac : ac = 1 ∨ ac = 2 ∨ ac = 3 := by omega
  clear hv hw ht HD1 HD2 HD3 HTT hb
  rcases hac with rfl | rfl | rfl
  · go_enter Tryz.func21, Tryz.ntmps21
    go_wp2_with (go_at_call 36; (with_reducible refine (K.out _).mono ?_); rintro e w1 ⟨rfl, g1⟩; have G1 := Lib.hid (GB.out.trans g1); have O1 := Lib.hid (own_G OB.out g1); clear g1)
    have gc0 := cellR (own_cellAt_mid O1.out (j := 0) rfl)
    have gc1 := cellR (own_cellAt_mid O1.out (j := 1) rfl)
    have gc2 := cellR (own_cellAt_mid O1.out (j := 2) rfl)
    have gc3 := cellR (own_cellAt_mid O1.out (j := 3) rfl)
    have gc4 := cellR (own_cellAt_mid O1.out (j := 4) rfl)
    have gc5 := cellR (own_cellAt_mid O1.out (j := 5) rfl)
    refine region_quiet_G (by kernel_rfl) (by kernel_rfl) ?_; (repeat (go_big_quiet_step ((((go_at_call 20; with_reducible exact quiet_G (K1.out _ (G1.out.trans (G.regrown _ _ _))))))))); refine wpQuiet_nil ?_
    intro w2 g2
    have G2 := Lib.hid (G1.out.trans g2)
    have O2 := Lib.hid (own_G O1.out g2)
    clear g2 gc0 gc1 gc2 gc3 gc4 gc5
    have hc0 := own_cellAt_mid O2.out (j := 0) rfl
    have hc1 := own_cellAt_mid O2.out (j := 1) rfl
    have hc2 := own_cellAt_mid O2.out (j := 2) rfl
    have hc3 := own_cellAt_mid O2.out (j := 3) rfl
    have hc4 := own_cellAt_mid O2.out (j := 4) rfl
    have hc5 := own_cellAt_mid O2.out (j := 5) rfl
    go_wp2_with (go_at_call 20; (with_reducible refine (K2.out _ G2.out).mono ?_); rintro e w3 ⟨rfl, g3⟩; have G3 := Lib.hid (G2.out.trans g3); clear g3)
    go_ret
    exact ⟨congrArg (fun x => Ending.returned (.string x)) (HD.out.trans (by simp)).symm, G3.out⟩
  · go_enter Tryz.func21, Tryz.ntmps21
    go_wp2_with (go_at_call 36; (with_reducible refine (K.out _).mono ?_); rintro e w1 ⟨rfl, g1⟩; have G1 := Lib.hid (GB.out.trans g1); have O1 := Lib.hid (own_G OB.out g1); clear g1)
    have gc0 := cellR (own_cellAt_mid O1.out (j := 0) rfl)
    have gc1 := cellR (own_cellAt_mid O1.out (j := 1) rfl)
    have gc2 := cellR (own_cellAt_mid O1.out (j := 2) rfl)
    have gc3 := cellR (own_cellAt_mid O1.out (j := 3) rfl)
    have gc4 := cellR (own_cellAt_mid O1.out (j := 4) rfl)
    have gc5 := cellR (own_cellAt_mid O1.out (j := 5) rfl)
    refine region_quiet_G (by kernel_rfl) (by kernel_rfl) ?_; (repeat (go_big_quiet_step ((((go_at_call 20; with_reducible exact quiet_G (K1.out _ (G1.out.trans (G.regrown _ _ _))))))))); refine wpQuiet_nil ?_
    intro w2 g2
    have G2 := Lib.hid (G1.out.trans g2)
    have O2 := Lib.hid (own_G O1.out g2)
    clear g2 gc0 gc1 gc2 gc3 gc4 gc5
    have hc0 := own_cellAt_mid O2.out (j := 0) rfl
    have hc1 := own_cellAt_mid O2.out (j := 1) rfl
    have hc2 := own_cellAt_mid O2.out (j := 2) rfl
    have hc3 := own_cellAt_mid O2.out (j := 3) rfl
    have hc4 := own_cellAt_mid O2.out (j := 4) rfl
    have hc5 := own_cellAt_mid O2.out (j := 5) rfl
    go_wp2
    have gc0 := cellR (own_cellAt_mid O2.out (j := 0) rfl)
    have gc1 := cellR (own_cellAt_mid O2.out (j := 1) rfl)
    have gc2 := cellR (own_cellAt_mid O2.out (j := 2) rfl)
    have gc3 := cellR (own_cellAt_mid O2.out (j := 3) rfl)
    have gc4 := cellR (own_cellAt_mid O2.out (j := 4) rfl)
    have gc5 := cellR (own_cellAt_mid O2.out (j := 5) rfl)
    refine region_quiet_G (by kernel_rfl) (by kernel_rfl) ?_; (repeat (go_big_quiet_step (((first | (go_at_call 20; with_reducible exact quiet_G (K2.out _ (G2.out.trans (G.regrown _ _ _)))) | (go_at_call 20; with_reducible exact quiet_G (K3.out _ (G2.out.trans (G.regrown _ _ _))))))))); refine wpQuiet_nil ?_
    intro w3 g3
    have G3 := Lib.hid (G2.out.trans g3)
    clear g3 gc0 gc1 gc2 gc3 gc4 gc5 hc0 hc1 hc2 hc3 hc4 hc5
    go_wp2
    go_ret
    exact ⟨congrArg (fun x => Ending.returned (.string x)) (HD.out.trans (by simp)).symm, G3.out⟩
  · go_enter Tryz.func21, Tryz.ntmps21
    go_wp2_with (go_at_call 36; (with_reducible refine (K.out _).mono ?_); rintro e w1 ⟨rfl, g1⟩; have G1 := Lib.hid (GB.out.trans g1); have O1 := Lib.hid (own_G OB.out g1); clear g1)
    have gc0 := cellR (own_cellAt_mid O1.out (j := 0) rfl)
    have gc1 := cellR (own_cellAt_mid O1.out (j := 1) rfl)
    have gc2 := cellR (own_cellAt_mid O1.out (j := 2) rfl)
    have gc3 := cellR (own_cellAt_mid O1.out (j := 3) rfl)
    have gc4 := cellR (own_cellAt_mid O1.out (j := 4) rfl)
    have gc5 := cellR (own_cellAt_mid O1.out (j := 5) rfl)
    refine region_quiet_G (by kernel_rfl) (by kernel_rfl) ?_; (repeat (go_big_quiet_step ((((go_at_call 20; with_reducible exact quiet_G (K1.out _ (G1.out.trans (G.regrown _ _ _))))))))); refine wpQuiet_nil ?_
    intro w2 g2
    have G2 := Lib.hid (G1.out.trans g2)
    have O2 := Lib.hid (own_G O1.out g2)
    clear g2 gc0 gc1 gc2 gc3 gc4 gc5
    have hc0 := own_cellAt_mid O2.out (j := 0) rfl
    have hc1 := own_cellAt_mid O2.out (j := 1) rfl
    have hc2 := own_cellAt_mid O2.out (j := 2) rfl
    have hc3 := own_cellAt_mid O2.out (j := 3) rfl
    have hc4 := own_cellAt_mid O2.out (j := 4) rfl
    have hc5 := own_cellAt_mid O2.out (j := 5) rfl
    go_wp2
    go_ret
    exact ⟨congrArg (fun x => Ending.returned (.string x)) (HD.out.trans (by simp)).symm, G2.out⟩

end Go.Proofs.YtecakcgkibemaaaGreatDoor
