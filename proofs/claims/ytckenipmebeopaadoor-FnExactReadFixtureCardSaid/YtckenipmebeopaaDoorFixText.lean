/-
  Walks: the text of a fixture, by both texts.
-/
import Derived.Test.YtckenipmebeopaaDoorDecI
import Derived.Test.YtckenipmebeopaaDoorFixture
import Derived.Test.YtckenipmebeopaaDoorIns
namespace Go.Proofs.YtckenipmebeopaaDoor
open Go.RowKit

def fixT (x : SFixture) : ByteArray := x.Name ++ ⟨#[32]⟩ ++ dec x.Universe ++ ⟨#[46]⟩ ++ dec x.Address ++ ⟨#[43]⟩ ++ dec x.Width
def fixTx (x : SFixture) : ByteArray := if vfB x = true then fixT x else ⟨#[]⟩
theorem vfB_nm {x : SFixture} (h : vfB x = true) : x.Name.size ≤ 100 := by
  unfold vfB at h
  simp only [Bool.and_eq_true] at h
  have := nameB_size h.1.1.1
  omega

set_option maxRecDepth 20000 in
set_option maxHeartbeats 4000000 in
theorem iFixtureText_any (x : SFixture) (w : World) (hw : WfFixture x) (ht : TabP w) :
    Calls Tryd.prog 8 #[.agg #[.string x.Name, .int .i64 x.Universe, .int .i64 x.Address, .int .i64 x.Width]] w fun e w' => e = .returned (.string (fixTx x)) ∧ G w w' := by
  have K := Lib.hid (fun W => ValidFixture_any x W hw)
  have HT := Lib.hid ht
  have OB := Lib.hid (own_new (w := w) (base := w.heap.size) (n := 1) (cap := 1) (size := 4) (e := 26) (cur := #[.string x.Name, .int .i64 x.Universe, .int .i64 x.Address, .int .i64 x.Width]) (Nat.le_refl _) (by decide) (by decide) rfl)
  have GB := Lib.hid ((G.refl w).alloc (.cells #[.string x.Name, .int .i64 x.Universe, .int .i64 x.Address, .int .i64 x.Width] 26))
  clear hw ht
  cases hv : vfB x
  · have H := Lib.hid (show fixTx x = ⟨#[]⟩ by unfold fixTx; rw [hv]; rfl)
    rw [hv] at K
    clear hv
    go_enter Tryd.func8, Tryd.ntmps8
    go_wp2_with (go_at_call 14; with_reducible refine (K.out _).mono ?_; rintro e w1 ⟨rfl, g1⟩; have G1 := Lib.hid (GB.out.trans g1); clear g1)
    go_ret
    exact ⟨congrArg (fun x => Ending.returned (.string x)) H.out.symm, G1.out⟩
  have H := Lib.hid (show fixTx x = fixT x by unfold fixTx; rw [if_pos hv])
  have hb := vfB_bd hv
  have hns := vfB_nm hv
  have d1 := dec_len x.Universe (by omega) (by omega)
  have d2 := dec_len x.Address (by omega) (by omega)
  have d3 := dec_len x.Width (by omega) (by omega)
  have K1 := Lib.hid (fun (W : World) (g : G w W) => Decimal_any x.Universe (by omega) (by omega) W (HT.out.G g))
  have K2 := Lib.hid (fun (W : World) (g : G w W) => Decimal_any x.Address (by omega) (by omega) W (HT.out.G g))
  have K3 := Lib.hid (fun (W : World) (g : G w W) => Decimal_any x.Width (by omega) (by omega) W (HT.out.G g))
  have HD := Lib.hid (show fixT x = x.Name ++ ⟨#[32]⟩ ++ dec x.Universe ++ ⟨#[46]⟩ ++ dec x.Address ++ ⟨#[43]⟩ ++ dec x.Width from rfl)
  obtain ⟨D1, HD1⟩ : ∃ D, Hid (dec x.Universe = D) := ⟨_, rfl⟩
  obtain ⟨D2, HD2⟩ : ∃ D, Hid (dec x.Address = D) := ⟨_, rfl⟩
  obtain ⟨D3, HD3⟩ : ∃ D, Hid (dec x.Width = D) := ⟨_, rfl⟩
  rw [HD1.out] at K1 HD d1
  rw [HD2.out] at K2 HD d2
  rw [HD3.out] at K3 HD d3
  rw [hv] at K
  obtain ⟨nm, u, a, wd⟩ := x
  simp only at hns K1 K2 K3 HD OB GB K H ⊢
  have s32 : (ByteArray.mk #[32]).size = 1 := rfl
  have s46 : (ByteArray.mk #[46]).size = 1 := rfl
  have s43 : (ByteArray.mk #[43]).size = 1 := rfl
  clear hv HD1 HD2 HD3 hb
  go_enter Tryd.func8, Tryd.ntmps8
  go_wp2_with (go_at_call 14; with_reducible refine (K.out _).mono ?_; rintro e w1 ⟨rfl, g1⟩; have G1 := Lib.hid (GB.out.trans g1); have O1 := Lib.hid (own_G OB.out g1); clear g1)
  have gc0 := cellR (own_cellAt_mid O1.out (j := 0) rfl)
  have gc1 := cellR (own_cellAt_mid O1.out (j := 1) rfl)
  have gc2 := cellR (own_cellAt_mid O1.out (j := 2) rfl)
  have gc3 := cellR (own_cellAt_mid O1.out (j := 3) rfl)
  refine region_quiet_G (by kernel_rfl) (by kernel_rfl) ?_; (repeat (go_big_quiet_step (((first | (go_at_call 15; with_reducible exact quiet_G (K1.out _ (G1.out.trans (G.regrown _ _ _)))) | (go_at_call 15; with_reducible exact quiet_G (K2.out _ (G1.out.trans (G.regrown _ _ _)))) | (go_at_call 15; with_reducible exact quiet_G (K3.out _ (G1.out.trans (G.regrown _ _ _))))))))); refine wpQuiet_nil ?_
  intro w2 g2
  have G2 := Lib.hid (G1.out.trans g2)
  clear g2 gc0 gc1 gc2 gc3
  go_wp2
  go_ret
  exact ⟨congrArg (fun x => Ending.returned (.string x)) (H.out.trans HD.out).symm, G2.out⟩

set_option maxRecDepth 20000 in
set_option maxHeartbeats 4000000 in
theorem l20Text_any (x : SFixture) (hv : vfB x = true) (b : Nat) (w : World) (hc0 : w.cell? ⟨b, 0, none⟩ = some (.string x.Name)) (hc1 : w.cell? ⟨b, 1, none⟩ = some (.int .i64 x.Universe)) (hc2 : w.cell? ⟨b, 2, none⟩ = some (.int .i64 x.Address)) (hc3 : w.cell? ⟨b, 3, none⟩ = some (.int .i64 x.Width)) :
    Calls Tryd.prog 13 #[.pointer (some ⟨b, 0, none⟩)] w fun e w' => e = .returned (.string (fixT x)) ∧ G w w' := by
  have hb := vfB_bd hv
  have hns := vfB_nm hv
  have d1 := dec_len x.Universe (by omega) (by omega)
  have d2 := dec_len x.Address (by omega) (by omega)
  have d3 := dec_len x.Width (by omega) (by omega)
  have K1 := Lib.hid (fun (W : World) => l01Dec_dec x.Universe (by omega) (by omega) W)
  have K2 := Lib.hid (fun (W : World) => l01Dec_dec x.Address (by omega) (by omega) W)
  have K3 := Lib.hid (fun (W : World) => l01Dec_dec x.Width (by omega) (by omega) W)
  have HD := Lib.hid (show fixT x = x.Name ++ ⟨#[32]⟩ ++ dec x.Universe ++ ⟨#[46]⟩ ++ dec x.Address ++ ⟨#[43]⟩ ++ dec x.Width from rfl)
  obtain ⟨D1, HD1⟩ : ∃ D, Hid (dec x.Universe = D) := ⟨_, rfl⟩
  obtain ⟨D2, HD2⟩ : ∃ D, Hid (dec x.Address = D) := ⟨_, rfl⟩
  obtain ⟨D3, HD3⟩ : ∃ D, Hid (dec x.Width = D) := ⟨_, rfl⟩
  rw [HD1.out] at K1 HD d1
  rw [HD2.out] at K2 HD d2
  rw [HD3.out] at K3 HD d3
  obtain ⟨nm, u, a, wd⟩ := x
  simp only at hns K1 K2 K3 HD hc0 hc1 hc2 hc3 ⊢
  have s32 : (ByteArray.mk #[32]).size = 1 := rfl
  have s46 : (ByteArray.mk #[46]).size = 1 := rfl
  have s43 : (ByteArray.mk #[43]).size = 1 := rfl
  have gc0 := cellR hc0
  have gc1 := cellR hc1
  have gc2 := cellR hc2
  have gc3 := cellR hc3
  clear hv HD1 HD2 HD3 hb hc0 hc1 hc2 hc3
  go_enter Tryd.func13, Tryd.ntmps13
  go_wp2
  refine region_quiet_G (by kernel_rfl) (by kernel_rfl) ?_; (repeat (go_big_quiet_step (((first | (go_at_call 23; with_reducible exact quiet_G (K1.out _)) | (go_at_call 23; with_reducible exact quiet_G (K2.out _)) | (go_at_call 23; with_reducible exact quiet_G (K3.out _))))))); refine wpQuiet_nil ?_
  intro w2 g2
  have G2 := Lib.hid g2
  clear g2 gc0 gc1 gc2 gc3
  go_wp2
  go_ret
  exact ⟨congrArg (fun x => Ending.returned (.string x)) HD.out.symm, G2.out⟩

set_option maxHeartbeats 2000000 in
theorem sFixtureText_any (x : SFixture) (w : World) (hw : WfFixture x) :
    Calls Tryd.prog 6 #[.agg #[.string x.Name, .int .i64 x.Universe, .int .i64 x.Address, .int .i64 x.Width]] w fun e w' => e = .returned (.string (fixTx x)) ∧ G w w' := by
  have OB := Lib.hid (own_new (w := w) (base := w.heap.size) (n := 1) (cap := 1) (size := 4) (e := 26) (cur := #[.string x.Name, .int .i64 x.Universe, .int .i64 x.Address, .int .i64 x.Width]) (Nat.le_refl _) (by decide) (by decide) rfl)
  have GB := Lib.hid ((G.refl w).alloc (.cells #[.string x.Name, .int .i64 x.Universe, .int .i64 x.Address, .int .i64 x.Width] 26))
  have c0 := own_cellAt_mid OB.out (j := 0) rfl
  have c1 := own_cellAt_mid OB.out (j := 1) rfl
  have c2 := own_cellAt_mid OB.out (j := 2) rfl
  have c3 := own_cellAt_mid OB.out (j := 3) rfl
  have K := Lib.hid (l20One_any x hw w.heap.size 0 _ c0 c1 c2 c3)
  have KT := Lib.hid (fun h (W : World) (g : G (w.alloc (.cells #[.string x.Name, .int .i64 x.Universe, .int .i64 x.Address, .int .i64 x.Width] 26)) W) => l20Text_any x h w.heap.size W (g.cell c0) (g.cell c1) (g.cell c2) (g.cell c3))
  clear hw c0 c1 c2 c3 OB
  cases hv : vfB x
  · have H := Lib.hid (show fixTx x = ⟨#[]⟩ by unfold fixTx; rw [hv]; rfl)
    rw [hv] at K
    clear hv
    go_enter Tryd.func6, Tryd.ntmps6
    go_wp2_with (go_at_call 12; with_reducible refine K.out.mono ?_; rintro e w1 ⟨rfl, g1⟩; have G1 := Lib.hid (GB.out.trans g1); clear g1)
    go_ret
    exact ⟨congrArg (fun x => Ending.returned (.string x)) H.out.symm, G1.out⟩
  have H := Lib.hid (show fixTx x = fixT x by unfold fixTx; rw [if_pos hv])
  have KU := Lib.hid (KT.out hv)
  rw [hv] at K
  clear hv KT
  go_enter Tryd.func6, Tryd.ntmps6
  go_wp2_with (first | (go_at_call 12; with_reducible refine K.out.mono ?_; rintro e w1 ⟨rfl, g1⟩; have G1 := Lib.hid g1; clear g1) | (go_at_call 13; with_reducible refine (KU.out _ G1.out).mono ?_; rintro e w2 ⟨rfl, g2⟩; have G2 := Lib.hid (GB.out.trans (G1.out.trans g2)); clear g2))
  go_ret
  exact ⟨congrArg (fun x => Ending.returned (.string x)) H.out.symm, G2.out⟩
end Go.Proofs.YtckenipmebeopaaDoor
