/-
  Walks: the text of a channel, by both texts.
-/
import Derived.Test.YtenahmlceglhoaaDoorDecI
import Derived.Test.YtenahmlceglhoaaDoorChannels
import Derived.Test.YtenahmlceglhoaaDoorIns
namespace Go.Proofs.YtenahmlceglhoaaDoor
open Go.RowKit

def chS (x : SChannel) : ByteArray := x.Name ++ ⟨#[32]⟩ ++ dec x.Gain ++ ⟨#[32]⟩ ++ dec x.Pan
def chT (x : SChannel) : ByteArray := if x.Muted = true then chS x ++ ⟨#[32, 109, 117, 116, 101]⟩ else chS x
def chTx (x : SChannel) : ByteArray := if vcB x = true then chT x else ⟨#[]⟩
theorem vcB_in {x : SChannel} (h : vcB x = true) : (-6000 ≤ x.Gain ∧ x.Gain ≤ 600) ∧ (-1000 ≤ x.Pan ∧ x.Pan ≤ 1000) ∧ x.Name.size ≤ 100 := by
  unfold vcB at h
  simp only [Bool.and_eq_true] at h
  exact ⟨inB_iff.1 h.1.2, inB_iff.1 h.2, by have := nameB_size h.1.1; omega⟩

set_option maxRecDepth 20000 in
set_option maxHeartbeats 4000000 in
theorem iChannelText_any (x : SChannel) (w : World) (hw : WfChannel x) (ht : TabP w) :
    Calls Tryd.prog 9 #[.agg #[.string x.Name, .int .i64 x.Gain, .int .i64 x.Pan, .bool x.Muted]] w fun e w' => e = .returned (.string (chTx x)) ∧ G w w' := by
  have K := Lib.hid (fun W => validChannel_any x hw W)
  have HT := Lib.hid ht
  have OB := Lib.hid (own_new (w := w) (base := w.heap.size) (n := 1) (cap := 1) (size := 4) (e := 26) (cur := #[.string x.Name, .int .i64 x.Gain, .int .i64 x.Pan, .bool x.Muted]) (Nat.le_refl _) (by decide) (by decide) rfl)
  have GB := Lib.hid ((G.refl w).alloc (.cells #[.string x.Name, .int .i64 x.Gain, .int .i64 x.Pan, .bool x.Muted] 26))
  clear hw ht
  cases hv : vcB x
  · have H := Lib.hid (show chTx x = ⟨#[]⟩ by unfold chTx; rw [hv]; rfl)
    rw [hv] at K
    clear hv
    go_enter Tryd.func9, Tryd.ntmps9
    go_wp2_with (go_at_call 28; with_reducible refine (K.out _).mono ?_; rintro e w1 ⟨rfl, g1⟩; have G1 := Lib.hid (GB.out.trans g1); clear g1)
    go_ret
    exact ⟨congrArg (fun x => Ending.returned (.string x)) H.out.symm, G1.out⟩
  have H := Lib.hid (show chTx x = chT x by unfold chTx; rw [if_pos hv])
  obtain ⟨⟨hg0, hg1⟩, ⟨hp0, hp1⟩, hns⟩ := vcB_in hv
  rw [hv] at K
  have d1 := dec_len x.Gain (by omega) (by omega)
  have d2 := dec_len x.Pan (by omega) (by omega)
  have KG := Lib.hid (fun (W : World) (g : G w W) => Decimal_any x.Gain (by omega) (by omega) W (HT.out.G g))
  have KP := Lib.hid (fun (W : World) (g : G w W) => Decimal_any x.Pan (by omega) (by omega) W (HT.out.G g))
  have HD := Lib.hid (show chT x = if x.Muted = true then x.Name ++ ⟨#[32]⟩ ++ dec x.Gain ++ ⟨#[32]⟩ ++ dec x.Pan ++ ⟨#[32, 109, 117, 116, 101]⟩ else x.Name ++ ⟨#[32]⟩ ++ dec x.Gain ++ ⟨#[32]⟩ ++ dec x.Pan from rfl)
  obtain ⟨D1, HD1⟩ : ∃ D, Hid (dec x.Gain = D) := ⟨_, rfl⟩
  obtain ⟨D2, HD2⟩ : ∃ D, Hid (dec x.Pan = D) := ⟨_, rfl⟩
  rw [HD1.out] at KG HD d1
  rw [HD2.out] at KP HD d2
  obtain ⟨nm, ga, pa, mu⟩ := x
  simp only at hns KG KP HD OB GB K H ⊢
  have s32 : (ByteArray.mk #[32]).size = 1 := rfl
  have s5 : (ByteArray.mk #[32, 109, 117, 116, 101]).size = 5 := rfl
  clear hv HD1 HD2
  go_enter Tryd.func9, Tryd.ntmps9
  go_wp2_with (go_at_call 28; with_reducible refine (K.out _).mono ?_; rintro e w1 ⟨rfl, g1⟩; have G1 := Lib.hid (GB.out.trans g1); have O1 := Lib.hid (own_G OB.out g1); clear g1)
  have gc0 := cellR (own_cellAt_mid O1.out (j := 0) rfl)
  have gc1 := cellR (own_cellAt_mid O1.out (j := 1) rfl)
  have gc2 := cellR (own_cellAt_mid O1.out (j := 2) rfl)
  refine region_quiet_G (by kernel_rfl) (by kernel_rfl) ?_; (repeat (go_big_quiet_step (((first | (go_at_call 29; with_reducible exact quiet_G (KG.out _ (G1.out.trans (G.regrown _ _ _)))) | (go_at_call 29; with_reducible exact quiet_G (KP.out _ (G1.out.trans (G.regrown _ _ _))))))))); refine wpQuiet_nil ?_
  intro w2 g2
  have G2 := Lib.hid (G1.out.trans g2)
  have hc3 := own_cellAt_mid (own_G O1.out g2) (j := 3) rfl
  clear g2 gc0 gc1 gc2
  cases mu
  · go_wp2
    go_ret
    exact ⟨congrArg (fun x => Ending.returned (.string x)) (H.out.trans HD.out).symm, G2.out⟩
  · go_wp2
    go_ret
    exact ⟨congrArg (fun x => Ending.returned (.string x)) (H.out.trans HD.out).symm, G2.out⟩

set_option maxRecDepth 20000 in
set_option maxHeartbeats 4000000 in
theorem l19Text_any (x : SChannel) (hv : vcB x = true) (b : Nat) (w : World) (hc0 : w.cell? ⟨b, 0, none⟩ = some (.string x.Name)) (hc1 : w.cell? ⟨b, 1, none⟩ = some (.int .i64 x.Gain)) (hc2 : w.cell? ⟨b, 2, none⟩ = some (.int .i64 x.Pan)) (hc3 : w.cell? ⟨b, 3, none⟩ = some (.bool x.Muted)) :
    Calls Tryd.prog 27 #[.pointer (some ⟨b, 0, none⟩)] w fun e w' => e = .returned (.string (chT x)) ∧ G w w' := by
  obtain ⟨⟨hg0, hg1⟩, ⟨hp0, hp1⟩, hns⟩ := vcB_in hv
  have d1 := dec_len x.Gain (by omega) (by omega)
  have d2 := dec_len x.Pan (by omega) (by omega)
  have KG := Lib.hid (fun (W : World) => l05Signed_any x.Gain (by omega) (by omega) W)
  have KP := Lib.hid (fun (W : World) => l05Signed_any x.Pan (by omega) (by omega) W)
  have HD := Lib.hid (show chT x = if x.Muted = true then x.Name ++ ⟨#[32]⟩ ++ dec x.Gain ++ ⟨#[32]⟩ ++ dec x.Pan ++ ⟨#[32, 109, 117, 116, 101]⟩ else x.Name ++ ⟨#[32]⟩ ++ dec x.Gain ++ ⟨#[32]⟩ ++ dec x.Pan from rfl)
  obtain ⟨D1, HD1⟩ : ∃ D, Hid (dec x.Gain = D) := ⟨_, rfl⟩
  obtain ⟨D2, HD2⟩ : ∃ D, Hid (dec x.Pan = D) := ⟨_, rfl⟩
  rw [HD1.out] at KG HD d1
  rw [HD2.out] at KP HD d2
  obtain ⟨nm, ga, pa, mu⟩ := x
  simp only at hns KG KP HD hc0 hc1 hc2 hc3 ⊢
  have s32 : (ByteArray.mk #[32]).size = 1 := rfl
  have s5 : (ByteArray.mk #[32, 109, 117, 116, 101]).size = 5 := rfl
  have HC3 := Lib.hid hc3
  have gc0 := cellR hc0
  have gc1 := cellR hc1
  have gc2 := cellR hc2
  clear hv HD1 HD2 hc0 hc1 hc2 hc3
  go_enter Tryd.func27, Tryd.ntmps27
  go_wp2
  refine region_quiet_G (by kernel_rfl) (by kernel_rfl) ?_; (repeat (go_big_quiet_step (((first | (go_at_call 51; with_reducible exact quiet_G (KG.out _)) | (go_at_call 51; with_reducible exact quiet_G (KP.out _))))))); refine wpQuiet_nil ?_
  intro w2 g2
  have G2 := Lib.hid g2
  have hc3 := g2.cell HC3.out
  clear g2 gc0 gc1 gc2
  cases mu
  · go_wp2
    go_ret
    exact ⟨congrArg (fun x => Ending.returned (.string x)) HD.out.symm, G2.out⟩
  · go_wp2
    go_ret
    exact ⟨congrArg (fun x => Ending.returned (.string x)) HD.out.symm, G2.out⟩

set_option maxHeartbeats 2000000 in
theorem sChannelText_any (x : SChannel) (w : World) (hw : WfChannel x) :
    Calls Tryd.prog 7 #[.agg #[.string x.Name, .int .i64 x.Gain, .int .i64 x.Pan, .bool x.Muted]] w fun e w' => e = .returned (.string (chTx x)) ∧ G w w' := by
  have OB := Lib.hid (own_new (w := w) (base := w.heap.size) (n := 1) (cap := 1) (size := 4) (e := 26) (cur := #[.string x.Name, .int .i64 x.Gain, .int .i64 x.Pan, .bool x.Muted]) (Nat.le_refl _) (by decide) (by decide) rfl)
  have c0 := own_cellAt_mid OB.out (j := 0) rfl
  have c1 := own_cellAt_mid OB.out (j := 1) rfl
  have c2 := own_cellAt_mid OB.out (j := 2) rfl
  have c3 := own_cellAt_mid OB.out (j := 3) rfl
  have K := Lib.hid (l19One_any x hw w.heap.size 0 _ c0 c1 c2)
  have KT := Lib.hid (fun h => l19Text_any x h w.heap.size _ c0 c1 c2 c3)
  have GB := Lib.hid ((G.refl w).alloc (.cells #[.string x.Name, .int .i64 x.Gain, .int .i64 x.Pan, .bool x.Muted] 26))
  clear hw c0 c1 c2 c3 OB
  cases hv : vcB x
  · have H := Lib.hid (show chTx x = ⟨#[]⟩ by unfold chTx; rw [hv]; rfl)
    rw [hv] at K
    clear hv
    go_enter Tryd.func7, Tryd.ntmps7
    go_wp2_with (go_at_call 26; with_reducible refine K.out.mono ?_; rintro e w1 ⟨rfl, rfl⟩)
    go_ret
    exact ⟨congrArg (fun x => Ending.returned (.string x)) H.out.symm, GB.out⟩
  have H := Lib.hid (show chTx x = chT x by unfold chTx; rw [if_pos hv])
  have KU := Lib.hid (KT.out hv)
  rw [hv] at K
  clear hv KT
  go_enter Tryd.func7, Tryd.ntmps7
  go_wp2_with (first | (go_at_call 26; with_reducible refine K.out.mono ?_; rintro e w1 ⟨rfl, rfl⟩) | (go_at_call 27; with_reducible refine KU.out.mono ?_; rintro e w2 ⟨rfl, g2⟩; have G2 := Lib.hid (GB.out.trans g2); clear g2))
  go_ret
  exact ⟨congrArg (fun x => Ending.returned (.string x)) H.out.symm, G2.out⟩
end Go.Proofs.YtenahmlceglhoaaDoor
