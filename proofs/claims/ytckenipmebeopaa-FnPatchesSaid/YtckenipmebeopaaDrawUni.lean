/-
  Walks: what the laws FnUniverses and FnPatches draw.
-/
import Derived.Test.YtckenipmebeopaaDrawPat
import Derived.Test.YtckenipmebeopaaRowsTo
namespace Go.Proofs.Ytckenipmebeopaa
open Go.RowKit

set_option maxRecDepth 20000 in
set_option maxHeartbeats 4000000 in
theorem DrawFreeAddress_any (A : Option Addr) (n c : Nat) (L : List Int) (w : World) (h : Code w A n L) (hA : ∀ a, A = some a → L ≠ [] → a.block < w.heap.size) :
    Calls Try.prog 17 #[.slice A n c] w fun e w' => ∃ (B : Option Addr) (cb : Nat) (M : List SFixture) (u wd : Int), e = .returned (.tuple #[.slice B M.length cb, .int .i64 u, .int .i64 wd]) ∧ M.length ≤ 20 ∧ M.length ≤ cb ∧ (∀ x ∈ M, WfFixture x) ∧ G w w' ∧ w'.ownsRow w.heap.size 34 4 (.slice B M.length cb) M.length (M.flatMap cFixture) := by
  have K := Lib.hid (l00From_any A n c L w h hA)
  clear h hA
  go_enter Try.func17, Try.ntmps17
  go_wp2_with fail
  refine K.out.mono ?_
  rintro e w1 ⟨rfl, g1, hs1, h1⟩
  have G1 := Lib.hid g1
  have H1 := Lib.hid h1
  obtain ⟨s, HS⟩ : ∃ s, Hid (w.heap.size = s) := ⟨_, rfl⟩
  have hsw : w.heap.size ≤ s := by rw [← HS.out]; (first | exact Nat.le_refl _ | simp)
  rw [HS.out] at H1 hs1
  rw [HS.out]
  clear g1 h1 K
  dsimp only
  go_wp2_with fail
  refine (l20Draw_any _ s A n c L 0 H1.out (by omega)).mono ?_
  rintro e w2 ⟨v, M, rfl, hM, hW, g2, h2, o2⟩
  obtain ⟨B, cb, rfl, hcb⟩ := own_lst2 o2
  have X2 := Lib.hid g2
  have H2 := Lib.hid h2
  have O2 := Lib.hid o2
  have HW := Lib.hid hW
  have hs2 := World.grownBy.size g2
  clear g2 h2 o2 hW
  dsimp only
  go_wp2_with fail
  have gx := (G.refl w2).alloc (.cells #[.int .i64 1, .int .i64 2, .int .i64 1, .int .i64 2, .int .i64 8, .int .i64 9, .int .i64 0] 2)
  refine (among_any (some ⟨w2.heap.size, 0, none⟩) 7 7 [1, 2, 1, 2, 8, 9, 0] _ s A n c L (0 + 90) (H2.out.g gx) (by omega) (rd_lit w2 [1, 2, 1, 2, 8, 9, 0] _) rfl (by omega) (by omega) (fun a ha => by cases ha; simp only; omega)).mono ?_
  rintro e w3 ⟨v3, ⟨u, hu, rfl⟩, rfl, g3, h3⟩
  have X3 := Lib.hid (Gx.trans X2.out (Gx.trans (Gx.of_G gx (some s)) g3))
  have O3 := Lib.hid (own_src (own_G O2.out gx) (by omega) g3)
  have H3 := Lib.hid h3
  have hs3 := World.grownBy.size X3.out
  clear g3 h3 gx hu X2 H2 O2
  dsimp only
  go_wp2_with fail
  have gx := (G.refl w3).alloc (.cells #[.int .i64 1, .int .i64 4, .int .i64 12, .int .i64 64, .int .i64 65, .int .i64 0] 2)
  refine (among_any (some ⟨w3.heap.size, 0, none⟩) 6 6 [1, 4, 12, 64, 65, 0] _ s A n c L (0 + 90 + 2) (H3.out.g gx) (by omega) (rd_lit w3 [1, 4, 12, 64, 65, 0] _) rfl (by omega) (by omega) (fun a ha => by cases ha; simp only; omega)).mono ?_
  rintro e w4 ⟨v4, ⟨wd, hwd, rfl⟩, rfl, g4, h4⟩
  have X4 := Lib.hid (Gx.trans X3.out (Gx.trans (Gx.of_G gx (some s)) g4))
  have O4 := Lib.hid (own_src (own_G O3.out gx) (by omega) g4)
  have H4 := Lib.hid h4
  have hs4 := World.grownBy.size X4.out
  clear g4 h4 gx hwd X3 H3 O3
  dsimp only
  go_wp2
  go_ret3
  exact ⟨B, cb, M, u, wd, rfl, hM, hcb, HW.out, Gx.G G1.out X4.out (by intro i hi; cases hi; exact hsw), O4.out.mono (by omega)⟩

set_option maxRecDepth 20000 in
set_option maxHeartbeats 4000000 in
theorem DrawAddFixture_any (A : Option Addr) (n c : Nat) (L : List Int) (w : World) (h : Code w A n L) (hA : ∀ a, A = some a → L ≠ [] → a.block < w.heap.size) :
    Calls Try.prog 11 #[.slice A n c] w fun e w' => ∃ (B : Option Addr) (cb : Nat) (M : List SFixture) (f : SFixture), e = .returned (.tuple #[.slice B M.length cb, .agg #[.string f.Name, .int .i64 f.Universe, .int .i64 f.Address, .int .i64 f.Width]]) ∧ M.length ≤ 20 ∧ M.length ≤ cb ∧ (∀ x ∈ M, WfFixture x) ∧ WfFixture f ∧ G w w' ∧ w'.ownsRow w.heap.size 34 4 (.slice B M.length cb) M.length (M.flatMap cFixture) := by
  have K := Lib.hid (l00From_any A n c L (w.alloc (.cells #[.string ⟨#[]⟩, .int .i64 0, .int .i64 0, .int .i64 0] 34)) (h.g ((G.refl w).alloc _)) (fun a ha hl => by have := hA a ha hl; simp; omega))
  have OQ := Lib.hid (own_new (w := w) (base := w.heap.size) (n := 1) (cap := 1) (size := 4) (e := 34) (cur := #[.string ⟨#[]⟩, .int .i64 0, .int .i64 0, .int .i64 0]) (Nat.le_refl _) (by decide) (by decide) rfl)
  have GZ := Lib.hid ((G.refl w).alloc (.cells #[.string ⟨#[]⟩, .int .i64 0, .int .i64 0, .int .i64 0] 34))
  have ez : (w.alloc (.cells #[.string ⟨#[]⟩, .int .i64 0, .int .i64 0, .int .i64 0] 34)).heap.size = w.heap.size + 1 := by simp
  clear h hA
  go_enter Try.func11, Try.ntmps11
  go_wp2_with fail
  refine K.out.mono ?_
  rintro e w1 ⟨rfl, g1, hs1, h1⟩
  replace OQ := Lib.hid (own_G OQ.out g1)
  have G1 := Lib.hid (GZ.out.trans g1)
  have H1 := Lib.hid h1
  obtain ⟨s, HS⟩ : ∃ s, Hid ((w.alloc (.cells #[.string ⟨#[]⟩, .int .i64 0, .int .i64 0, .int .i64 0] 34)).heap.size = s) := ⟨_, rfl⟩
  have hsw : w.heap.size ≤ s := by rw [← HS.out]; (first | exact Nat.le_refl _ | simp)
  rw [HS.out] at H1 hs1
  rw [HS.out]
  clear g1 h1 K
  dsimp only
  go_wp2_with fail
  refine (l20Draw_any _ s A n c L 0 H1.out (by omega)).mono ?_
  rintro e w2 ⟨v, M, rfl, hM, hW, g2, h2, o2⟩
  obtain ⟨B, cb, rfl, hcb⟩ := own_lst2 o2
  have X2 := Lib.hid g2
  have H2 := Lib.hid h2
  have O2 := Lib.hid o2
  have HW := Lib.hid hW
  replace OQ := Lib.hid (own_Gx OQ.out g2 (.inr (by simp [Value.ownBlock]; rw [← HS.out]; omega)))
  have hs2 := World.grownBy.size g2
  clear g2 h2 o2 hW
  dsimp only
  go_wp2_with fail
  have gx := (G.refl w2).alloc (.cells #[.string ⟨#[97]⟩, .string ⟨#[98]⟩, .string ⟨#[98, 98]⟩, .string ⟨#[122]⟩, .string ⟨#[110]⟩] 9)
  refine (text_any (some ⟨w2.heap.size, 0, none⟩) 5 5 [⟨#[97]⟩, ⟨#[98]⟩, ⟨#[98, 98]⟩, ⟨#[122]⟩, ⟨#[110]⟩] (H2.out.g gx) (by omega) (rd_lits w2 [⟨#[97]⟩, ⟨#[98]⟩, ⟨#[98, 98]⟩, ⟨#[122]⟩, ⟨#[110]⟩] _) rfl (by omega) (by omega) (fun a ha => by cases ha; simp only; omega)).mono ?_
  rintro e w3 ⟨v3, ⟨nm, hnm, rfl⟩, rfl, g3, h3⟩
  have hns : nm.size ≤ maxLen := by
    simp only [List.mem_cons, List.not_mem_nil, or_false] at hnm
    rcases hnm with rfl | rfl | rfl | rfl | rfl <;> decide
  have X3 := Lib.hid (Gx.trans X2.out (Gx.trans (Gx.of_G gx (some s)) g3))
  have O3 := Lib.hid (own_src (own_G O2.out gx) (by omega) g3)
  have hqs : w.heap.size ≠ s := by rw [← HS.out]; omega
  replace OQ := Lib.hid (own_Gx (own_G OQ.out gx) g3 (.inr (by simp [Value.ownBlock]; omega)))
  have H3 := Lib.hid h3
  have hs3 := World.grownBy.size X3.out
  clear g3 h3 gx hnm X2 H2 O2
  dsimp only
  go_wp2_with fail
  refine (l20DrawOne_any nm _ s A n c L (0 + 90 + 2) H3.out (by omega)).mono ?_
  rintro e w4 ⟨v4, ⟨uu, aa, wd, rfl⟩, rfl, g4, h4⟩
  have X4 := Lib.hid (Gx.trans X3.out g4)
  have O4 := Lib.hid (own_src O3.out (by omega) g4)
  replace OQ := Lib.hid (own_Gx OQ.out g4 (.inr (by simp [Value.ownBlock]; omega)))
  have H4 := Lib.hid h4
  have hs4 := World.grownBy.size X4.out
  clear g4 h4 X3 H3 O3
  dsimp only
  go_wp2_with fail
  refine (l20Bend_any ⟨nm, uu, aa, wd⟩ hns _ s A n c L (0 + 90 + 2 + 8) H4.out (by omega)).mono ?_
  rintro e w5 ⟨v5, ⟨x, hx, rfl⟩, rfl, g5, h5⟩
  have X5 := Lib.hid (Gx.trans X4.out g5)
  have O5 := Lib.hid (own_src O4.out (by omega) g5)
  replace OQ := Lib.hid (own_Gx OQ.out g5 (.inr (by simp [Value.ownBlock]; omega)))
  have HX := Lib.hid hx
  clear g5 h5 hx X4 H4 O4
  dsimp only
  have hc0 := own_cellAt_mid OQ.out (j := 0) rfl
  have hy0 := own_frozen_of OQ.out 0
  have hc1 := own_cellAt_mid OQ.out (j := 1) rfl
  have hy1 := own_frozen_of OQ.out 1
  have hc2 := own_cellAt_mid OQ.out (j := 2) rfl
  have hy2 := own_frozen_of OQ.out 2
  have hc3 := own_cellAt_mid OQ.out (j := 3) rfl
  have hy3 := own_frozen_of OQ.out 3
  go_wp2
  clear hc0 hy0 hc1 hy1 hc2 hy2 hc3 hy3
  have S0 := Lib.hid (OQ.out.stored 0 (.string x.Name))
  replace OQ := Lib.hid S0.out.1
  replace O5 := Lib.hid (own_Gx O5.out S0.out.2 (.inr (fun e => by have := (O5.out.lt _ e).1; have := X5; omega)))
  have S1 := Lib.hid (OQ.out.stored 1 (.int .i64 x.Universe))
  replace OQ := Lib.hid S1.out.1
  replace O5 := Lib.hid (own_Gx O5.out S1.out.2 (.inr (fun e => by have := (O5.out.lt _ e).1; have := X5; omega)))
  have S2 := Lib.hid (OQ.out.stored 2 (.int .i64 x.Address))
  replace OQ := Lib.hid S2.out.1
  replace O5 := Lib.hid (own_Gx O5.out S2.out.2 (.inr (fun e => by have := (O5.out.lt _ e).1; have := X5; omega)))
  have S3 := Lib.hid (OQ.out.stored 3 (.int .i64 x.Width))
  replace OQ := Lib.hid S3.out.1
  replace O5 := Lib.hid (own_Gx O5.out S3.out.2 (.inr (fun e => by have := (O5.out.lt _ e).1; have := X5; omega)))
  have G5 := Lib.hid (Gx.G G1.out X5.out (by intro i hi; cases hi; exact hsw))
  have G6 := Lib.hid ((((G5.out.setCell (p := ⟨w.heap.size, 0, none⟩) (Nat.le_refl _) (.string x.Name)).setCell (p := ⟨w.heap.size, 1, none⟩) (Nat.le_refl _) (.int .i64 x.Universe)).setCell (p := ⟨w.heap.size, 2, none⟩) (Nat.le_refl _) (.int .i64 x.Address)).setCell (p := ⟨w.heap.size, 3, none⟩) (Nat.le_refl _) (.int .i64 x.Width))
  have k0 := own_cellAt_mid OQ.out (j := 0) rfl
  have k1 := own_cellAt_mid OQ.out (j := 1) rfl
  have k2 := own_cellAt_mid OQ.out (j := 2) rfl
  have k3 := own_cellAt_mid OQ.out (j := 3) rfl
  refine bodyPost_ret (v := .tuple #[.slice B M.length cb, .agg #[.string x.Name, .int .i64 x.Universe, .int .i64 x.Address, .int .i64 x.Width]]) (by simp [results, Try.results11, go_sem, k0, k1, k2, k3]) rfl ⟨B, cb, M, x, rfl, hM, hcb, HW.out, HX.out, G6.out, O5.out.mono (by omega)⟩
end Go.Proofs.Ytckenipmebeopaa
