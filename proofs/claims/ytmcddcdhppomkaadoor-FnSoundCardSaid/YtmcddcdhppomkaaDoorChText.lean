/-
  Walks: the text of a channel, by both texts.
-/
import Derived.Test.YtmcddcdhppomkaaDoorDecI
import Derived.Test.YtmcddcdhppomkaaDoorChannels
import Derived.Test.YtmcddcdhppomkaaDoorIns
namespace Go.Proofs.YtmcddcdhppomkaaDoor
open Go.RowKit

def chS (x : SChannel) : ByteArray := x.Name ++ ⟨#[32]⟩ ++ dec x.Gain ++ ⟨#[32]⟩ ++ dec x.Pan
def chT (x : SChannel) : ByteArray := if x.Muted = true then chS x ++ ⟨#[32, 109, 117, 116, 101]⟩ else chS x
def chTx (x : SChannel) : ByteArray := if vcB x = true then chT x else ⟨#[]⟩
theorem vcB_in {x : SChannel} (h : vcB x = true) : (-6000 ≤ x.Gain ∧ x.Gain ≤ 600) ∧ (-1000 ≤ x.Pan ∧ x.Pan ≤ 1000) ∧ x.Name.size ≤ 100 := by
  unfold vcB at h
  simp only [Bool.and_eq_true] at h
  exact ⟨inB_iff.1 h.1.2, inB_iff.1 h.2, by have := nameB_size h.1.1; omega⟩

set_option maxRecDepth 20000 in
set_option maxHeartbeats 4000000 in
theorem iChannelText_any (x : SChannel) (w : World) (hw : WfChannel x) (ht : TabP w) :
    Calls Tryd.prog 17 #[.agg #[.string x.Name, .int .i64 x.Gain, .int .i64 x.Pan, .bool x.Muted]] w fun e w' => e = .returned (.string (chTx x)) ∧ G w w' := by
  have K := Lib.hid (fun W => validChannel_any x hw W)
  have HT := Lib.hid ht
  have OB := Lib.hid (own_new (w := w) (base := w.heap.size) (n := 1) (cap := 1) (size := 4) (e := 35) (cur := #[.string x.Name, .int .i64 x.Gain, .int .i64 x.Pan, .bool x.Muted]) (Nat.le_refl _) (by decide) (by decide) rfl)
  have GB := Lib.hid ((G.refl w).alloc (.cells #[.string x.Name, .int .i64 x.Gain, .int .i64 x.Pan, .bool x.Muted] 35))
  clear hw ht
  cases hv : vcB x
  · have H := Lib.hid (show chTx x = ⟨#[]⟩ by unfold chTx; rw [hv]; rfl)
    rw [hv] at K
    clear hv
    go_enter Tryd.func17, Tryd.ntmps17
    go_wp2_with (go_at_call 37; with_reducible refine (K.out _).mono ?_; rintro e w1 ⟨rfl, g1⟩; have G1 := Lib.hid (GB.out.trans g1); clear g1)
    go_ret
    exact ⟨congrArg (fun x => Ending.returned (.string x)) H.out.symm, G1.out⟩
  have H := Lib.hid (show chTx x = chT x by unfold chTx; rw [if_pos hv])
  obtain ⟨⟨hg0, hg1⟩, ⟨hp0, hp1⟩, hns⟩ := vcB_in hv
  rw [hv] at K
  have d1 := dec_len x.Gain (by omega) (by omega)
  have d2 := dec_len x.Pan (by omega) (by omega)
  have KG := Lib.hid (fun (W : World) (g : G w W) => Decimal_any x.Gain (by omega) (by omega) W (HT.out.G g))
  have KP := Lib.hid (fun (W : World) (g : G w W) => Decimal_any x.Pan (by omega) (by omega) W (HT.out.G g))
  have HD := Lib.hid (show chT x = if x.Muted = true then x.Name ++ ⟨#[32]⟩ ++ dec x.Gain ++ ⟨#[32]⟩ ++ dec x.Pan ++ ⟨#[32, 109, 117, 116, 101]⟩ else x.Name ++ ⟨#[32]⟩ ++ dec x.Gain ++ ⟨#[32]⟩ ++ dec x.Pan from rfl)
  obtain ⟨D1, HD1⟩ : ∃ D, Hid (dec x.Gain = D) := ⟨_, rfl⟩
  obtain ⟨D2, HD2⟩ : ∃ D, Hid (dec x.Pan = D) := ⟨_, rfl⟩
  rw [HD1.out] at KG HD d1
  rw [HD2.out] at KP HD d2
  obtain ⟨nm, ga, pa, mu⟩ := x
  simp only at hns KG KP HD OB GB K H ⊢
  have s32 : (ByteArray.mk #[32]).size = 1 := rfl
  have s5 : (ByteArray.mk #[32, 109, 117, 116, 101]).size = 5 := rfl
  clear hv HD1 HD2
  go_enter Tryd.func17, Tryd.ntmps17
  go_wp2_with (go_at_call 37; with_reducible refine (K.out _).mono ?_; rintro e w1 ⟨rfl, g1⟩; have G1 := Lib.hid (GB.out.trans g1); have O1 := Lib.hid (own_G OB.out g1); clear g1)
  have gc0 := cellR (own_cellAt_mid O1.out (j := 0) rfl)
  have gc1 := cellR (own_cellAt_mid O1.out (j := 1) rfl)
  have gc2 := cellR (own_cellAt_mid O1.out (j := 2) rfl)
  refine region_quiet_G (by kernel_rfl) (by kernel_rfl) ?_; (repeat (go_big_quiet_step (((first | (go_at_call 38; with_reducible exact quiet_G (KG.out _ (G1.out.trans (G.regrown _ _ _)))) | (go_at_call 38; with_reducible exact quiet_G (KP.out _ (G1.out.trans (G.regrown _ _ _))))))))); refine wpQuiet_nil ?_
  intro w2 g2
  have G2 := Lib.hid (G1.out.trans g2)
  have hc3 := own_cellAt_mid (own_G O1.out g2) (j := 3) rfl
  clear g2 gc0 gc1 gc2
  cases mu
  · go_wp2
    go_ret
    exact ⟨congrArg (fun x => Ending.returned (.string x)) (H.out.trans HD.out).symm, G2.out⟩
  · go_wp2
    go_ret
    exact ⟨congrArg (fun x => Ending.returned (.string x)) (H.out.trans HD.out).symm, G2.out⟩

end Go.Proofs.YtmcddcdhppomkaaDoor
