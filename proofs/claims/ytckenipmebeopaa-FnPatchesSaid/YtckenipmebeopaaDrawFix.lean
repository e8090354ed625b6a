/-
  Walks: fixtures drawn from bytes. Only what the draws leave alone, and that they are lists of fixtures.
-/
import Derived.Test.YtckenipmebeopaaSrcText
import Derived.Test.YtckenipmebeopaaAddFixture
namespace Go.Proofs.Ytckenipmebeopaa
open Go.RowKit

theorem own_lst2 {w : World} {B T sz n : Nat} {v : Value} {xs : List Value} (h : w.ownsRow B T sz v n xs) : ∃ A c, v = .slice A n c ∧ n ≤ c := by
  rcases h.2 with ⟨rfl, rfl⟩ | ⟨g, cap, cur, rfl, _, _, h1, _⟩
  · exact ⟨_, _, rfl, Nat.le_refl _⟩
  · exact ⟨_, _, rfl, h1⟩

set_option maxRecDepth 20000 in
set_option maxHeartbeats 4000000 in
theorem l20DrawOne_any (nm : ByteArray) (w : World) (s : Nat) (A : Option Addr) (n c : Nat) (L : List Int) (m : Nat) (h : Src w s A n c L m) (hm : m + 8 ≤ 1000000) :
    Calls Try.prog 30 #[.pointer (some ⟨s, 0, none⟩), .string nm] w (Drawn w s A n c L (m + 8) fun v => ∃ u a wd : Int, v = .agg #[.string nm, .int .i64 u, .int .i64 a, .int .i64 wd]) := by
  have hsl := h.lt
  have X0 := Lib.hid (Gx.of_G (G.refl w) (some s))
  have H0 := Lib.hid h
  have z0 : w.heap.size ≤ w.heap.size := Nat.le_refl _
  clear h
  have Oq := Lib.hid (own_new (w := w) (base := w.heap.size) (n := 1) (cap := 1) (size := 4) (e := 34) (cur := #[.string ⟨#[]⟩, .int .i64 0, .int .i64 0, .int .i64 0]) (by first | omega | (simp; omega) | simp) (by decide) (by decide) rfl)
  replace X0 := Lib.hid (Gx.trans X0.out (Gx.of_G ((G.refl (w)).alloc (.cells #[.string ⟨#[]⟩, .int .i64 0, .int .i64 0, .int .i64 0] 34)) (some s)))
  replace H0 := Lib.hid (H0.out.g ((G.refl (w)).alloc (.cells #[.string ⟨#[]⟩, .int .i64 0, .int .i64 0, .int .i64 0] 34)))
  go_enter Try.func30, Try.ntmps30
  go_wp2_with fail
  refine (pick_any 2 _ s A n c L m H0.out (by omega) (by omega)).mono ?_
  rintro e w1 ⟨v1, ⟨x, hx0, hx1, rfl⟩, rfl, g1, h1⟩
  replace Oq := Lib.hid (own_src Oq.out (by omega) g1)
  have X1 := Lib.hid (Gx.trans X0.out g1)
  have H1 := Lib.hid h1
  have z1 := World.grownBy.size X1.out
  clear g1 h1 X0 H0
  dsimp only
  obtain ⟨q, HQq⟩ : ∃ q : Nat, Hid (w.heap.size = q) := ⟨_, rfl⟩
  have bq : w.heap.size ≤ q := by rw [← HQq.out]; omega
  rw [HQq.out] at Oq
  rw [HQq.out]
  have lq := (Oq.out.lt q rfl).2
  have Of := Lib.hid (own_new (w := w1) (base := w.heap.size) (n := 1) (cap := 1) (size := 4) (e := 34) (cur := #[.string nm, .int .i64 (1 + x), .int .i64 0, .int .i64 0]) (by first | omega | (simp; omega) | simp) (by decide) (by decide) rfl)
  replace Oq := Lib.hid (own_G Oq.out ((G.refl (w1)).alloc (.cells #[.string nm, .int .i64 (1 + x), .int .i64 0, .int .i64 0] 34)))
  replace X1 := Lib.hid (Gx.trans X1.out (Gx.of_G ((G.refl (w1)).alloc (.cells #[.string nm, .int .i64 (1 + x), .int .i64 0, .int .i64 0] 34)) (some s)))
  replace H1 := Lib.hid (H1.out.g ((G.refl (w1)).alloc (.cells #[.string nm, .int .i64 (1 + x), .int .i64 0, .int .i64 0] 34)))
  go_wp2_with fail
  refine (pick_any 12 _ s A n c L (m + 2) H1.out (by omega) (by omega)).mono ?_
  rintro e w2 ⟨v2, ⟨y, hy0, hy1, rfl⟩, rfl, g2, h2⟩
  replace Oq := Lib.hid (own_src Oq.out (by omega) g2)
  replace Of := Lib.hid (own_src Of.out (by omega) g2)
  have X2 := Lib.hid (Gx.trans X1.out g2)
  have H2 := Lib.hid h2
  have z2 := World.grownBy.size X2.out
  clear g2 h2 X1 H1
  dsimp only
  obtain ⟨f, HQf⟩ : ∃ q : Nat, Hid (w1.heap.size = q) := ⟨_, rfl⟩
  have bf : w.heap.size ≤ f := by rw [← HQf.out]; omega
  rw [HQf.out] at Of
  rw [HQf.out]
  have hne : q ≠ f := by rw [← HQf.out]; omega
  have hcq0 := own_cellAt_mid Oq.out (j := 0) rfl
  have hyq0 := own_frozen_of Oq.out 0
  have hcq1 := own_cellAt_mid Oq.out (j := 1) rfl
  have hyq1 := own_frozen_of Oq.out 1
  have hcq2 := own_cellAt_mid Oq.out (j := 2) rfl
  have hyq2 := own_frozen_of Oq.out 2
  have hcq3 := own_cellAt_mid Oq.out (j := 3) rfl
  have hyq3 := own_frozen_of Oq.out 3
  have hcf0 := own_cellAt_mid Of.out (j := 0) rfl
  have hyf0 := own_frozen_of Of.out 0
  have hcf1 := own_cellAt_mid Of.out (j := 1) rfl
  have hyf1 := own_frozen_of Of.out 1
  have hcf2 := own_cellAt_mid Of.out (j := 2) rfl
  have hyf2 := own_frozen_of Of.out 2
  have hcf3 := own_cellAt_mid Of.out (j := 3) rfl
  have hyf3 := own_frozen_of Of.out 3
  go_wp2_with fail
  clear hcq0 hyq0 hcq1 hyq1 hcq2 hyq2 hcq3 hyq3 hcf0 hyf0 hcf1 hyf1 hcf2 hyf2 hcf3 hyf3
  have S3 := Lib.hid (Of.out.stored 3 (.int .i64 (1 + y)))
  replace Oq := Lib.hid (own_Gx Oq.out S3.out.2 (.inr (by simp [Value.ownBlock]; omega)))
  replace Of := Lib.hid S3.out.1
  replace X2 := Lib.hid (Gx.grown X2.out S3.out.2 (fun k hk => by cases hk; omega))
  replace H2 := Lib.hid (H2.out.grown S3.out.2 (fun k hk => by cases hk; omega))
  clear S3
  skip
  refine (pick_any 60 _ s A n c L (m + 4) H2.out (by omega) (by omega)).mono ?_
  rintro e w3 ⟨v3, ⟨z, hz0, hz1, rfl⟩, rfl, g3, h3⟩
  replace Oq := Lib.hid (own_src Oq.out (by omega) g3)
  replace Of := Lib.hid (own_src Of.out (by omega) g3)
  have X3 := Lib.hid (Gx.trans X2.out g3)
  have H3 := Lib.hid h3
  have z3 := World.grownBy.size X3.out
  clear g3 h3 X2 H2
  dsimp only
  have hcq0 := own_cellAt_mid Oq.out (j := 0) rfl
  have hyq0 := own_frozen_of Oq.out 0
  have hcq1 := own_cellAt_mid Oq.out (j := 1) rfl
  have hyq1 := own_frozen_of Oq.out 1
  have hcq2 := own_cellAt_mid Oq.out (j := 2) rfl
  have hyq2 := own_frozen_of Oq.out 2
  have hcq3 := own_cellAt_mid Oq.out (j := 3) rfl
  have hyq3 := own_frozen_of Oq.out 3
  have hcf0 := own_cellAt_mid Of.out (j := 0) rfl
  have hyf0 := own_frozen_of Of.out 0
  have hcf1 := own_cellAt_mid Of.out (j := 1) rfl
  have hyf1 := own_frozen_of Of.out 1
  have hcf2 := own_cellAt_mid Of.out (j := 2) rfl
  have hyf2 := own_frozen_of Of.out 2
  have hcf3 := own_cellAt_mid Of.out (j := 3) rfl
  have hyf3 := own_frozen_of Of.out 3
  go_wp2_with fail
  clear hcq0 hyq0 hcq1 hyq1 hcq2 hyq2 hcq3 hyq3 hcf0 hyf0 hcf1 hyf1 hcf2 hyf2 hcf3 hyf3
  have S4 := Lib.hid (Of.out.stored 2 (.int .i64 (1 + z)))
  replace Oq := Lib.hid (own_Gx Oq.out S4.out.2 (.inr (by simp [Value.ownBlock]; omega)))
  replace Of := Lib.hid S4.out.1
  replace X3 := Lib.hid (Gx.grown X3.out S4.out.2 (fun k hk => by cases hk; omega))
  replace H3 := Lib.hid (H3.out.grown S4.out.2 (fun k hk => by cases hk; omega))
  clear S4
  skip
  refine (one_any 8 _ s A n c L (m + 6) H3.out (by omega) (by omega)).mono ?_
  rintro e w4 ⟨v4, ⟨b, rfl⟩, rfl, g4, h4⟩
  replace Oq := Lib.hid (own_src Oq.out (by omega) g4)
  replace Of := Lib.hid (own_src Of.out (by omega) g4)
  have X4 := Lib.hid (Gx.trans X3.out g4)
  have H4 := Lib.hid h4
  have z4 := World.grownBy.size X4.out
  clear g4 h4 X3 H3
  dsimp only
  have hcq0 := own_cellAt_mid Oq.out (j := 0) rfl
  have hyq0 := own_frozen_of Oq.out 0
  have hcq1 := own_cellAt_mid Oq.out (j := 1) rfl
  have hyq1 := own_frozen_of Oq.out 1
  have hcq2 := own_cellAt_mid Oq.out (j := 2) rfl
  have hyq2 := own_frozen_of Oq.out 2
  have hcq3 := own_cellAt_mid Oq.out (j := 3) rfl
  have hyq3 := own_frozen_of Oq.out 3
  have hcf0 := own_cellAt_mid Of.out (j := 0) rfl
  have hyf0 := own_frozen_of Of.out 0
  have hcf1 := own_cellAt_mid Of.out (j := 1) rfl
  have hyf1 := own_frozen_of Of.out 1
  have hcf2 := own_cellAt_mid Of.out (j := 2) rfl
  have hyf2 := own_frozen_of Of.out 2
  have hcf3 := own_cellAt_mid Of.out (j := 3) rfl
  have hyf3 := own_frozen_of Of.out 3
  cases b
  case false =>
    go_wp2
    clear hcq0 hyq0 hcq1 hyq1 hcq2 hyq2 hcq3 hyq3 hcf0 hyf0 hcf1 hyf1 hcf2 hyf2 hcf3 hyf3
    have S5 := Lib.hid (Oq.out.stored 0 (.string nm))
    replace Of := Lib.hid (own_Gx Of.out S5.out.2 (.inr (by simp [Value.ownBlock]; omega)))
    replace Oq := Lib.hid S5.out.1
    replace X4 := Lib.hid (Gx.grown X4.out S5.out.2 (fun k hk => by cases hk; omega))
    replace H4 := Lib.hid (H4.out.grown S5.out.2 (fun k hk => by cases hk; omega))
    clear S5
    have S6 := Lib.hid (Oq.out.stored 1 (.int .i64 (1 + x)))
    replace Of := Lib.hid (own_Gx Of.out S6.out.2 (.inr (by simp [Value.ownBlock]; omega)))
    replace Oq := Lib.hid S6.out.1
    replace X4 := Lib.hid (Gx.grown X4.out S6.out.2 (fun k hk => by cases hk; omega))
    replace H4 := Lib.hid (H4.out.grown S6.out.2 (fun k hk => by cases hk; omega))
    clear S6
    have S7 := Lib.hid (Oq.out.stored 2 (.int .i64 (1 + z)))
    replace Of := Lib.hid (own_Gx Of.out S7.out.2 (.inr (by simp [Value.ownBlock]; omega)))
    replace Oq := Lib.hid S7.out.1
    replace X4 := Lib.hid (Gx.grown X4.out S7.out.2 (fun k hk => by cases hk; omega))
    replace H4 := Lib.hid (H4.out.grown S7.out.2 (fun k hk => by cases hk; omega))
    clear S7
    have S8 := Lib.hid (Oq.out.stored 3 (.int .i64 (1 + y)))
    replace Of := Lib.hid (own_Gx Of.out S8.out.2 (.inr (by simp [Value.ownBlock]; omega)))
    replace Oq := Lib.hid S8.out.1
    replace X4 := Lib.hid (Gx.grown X4.out S8.out.2 (fun k hk => by cases hk; omega))
    replace H4 := Lib.hid (H4.out.grown S8.out.2 (fun k hk => by cases hk; omega))
    clear S8
    have k0 := own_cellAt_mid Oq.out (j := 0) rfl
    have k1 := own_cellAt_mid Oq.out (j := 1) rfl
    have k2 := own_cellAt_mid Oq.out (j := 2) rfl
    have k3 := own_cellAt_mid Oq.out (j := 3) rfl
    refine bodyPost_ret (v := .agg #[.string nm, .int .i64 (1 + x), .int .i64 (1 + z), .int .i64 (1 + y)]) (by simp [results, Try.results30, go_sem, k0, k1, k2, k3]) rfl ⟨_, ⟨_, _, _, rfl⟩, rfl, X4.out, H4.out.up (by omega) hm⟩
  go_wp2
  clear hcq0 hyq0 hcq1 hyq1 hcq2 hyq2 hcq3 hyq3 hcf0 hyf0 hcf1 hyf1 hcf2 hyf2 hcf3 hyf3
  have S5 := Lib.hid (Of.out.stored 2 (.int .i64 (513 - (1 + y))))
  replace Oq := Lib.hid (own_Gx Oq.out S5.out.2 (.inr (by simp [Value.ownBlock]; omega)))
  replace Of := Lib.hid S5.out.1
  replace X4 := Lib.hid (Gx.grown X4.out S5.out.2 (fun k hk => by cases hk; omega))
  replace H4 := Lib.hid (H4.out.grown S5.out.2 (fun k hk => by cases hk; omega))
  clear S5
  have S6 := Lib.hid (Oq.out.stored 0 (.string nm))
  replace Of := Lib.hid (own_Gx Of.out S6.out.2 (.inr (by simp [Value.ownBlock]; omega)))
  replace Oq := Lib.hid S6.out.1
  replace X4 := Lib.hid (Gx.grown X4.out S6.out.2 (fun k hk => by cases hk; omega))
  replace H4 := Lib.hid (H4.out.grown S6.out.2 (fun k hk => by cases hk; omega))
  clear S6
  have S7 := Lib.hid (Oq.out.stored 1 (.int .i64 (1 + x)))
  replace Of := Lib.hid (own_Gx Of.out S7.out.2 (.inr (by simp [Value.ownBlock]; omega)))
  replace Oq := Lib.hid S7.out.1
  replace X4 := Lib.hid (Gx.grown X4.out S7.out.2 (fun k hk => by cases hk; omega))
  replace H4 := Lib.hid (H4.out.grown S7.out.2 (fun k hk => by cases hk; omega))
  clear S7
  have S8 := Lib.hid (Oq.out.stored 2 (.int .i64 (513 - (1 + y))))
  replace Of := Lib.hid (own_Gx Of.out S8.out.2 (.inr (by simp [Value.ownBlock]; omega)))
  replace Oq := Lib.hid S8.out.1
  replace X4 := Lib.hid (Gx.grown X4.out S8.out.2 (fun k hk => by cases hk; omega))
  replace H4 := Lib.hid (H4.out.grown S8.out.2 (fun k hk => by cases hk; omega))
  clear S8
  have S9 := Lib.hid (Oq.out.stored 3 (.int .i64 (1 + y)))
  replace Of := Lib.hid (own_Gx Of.out S9.out.2 (.inr (by simp [Value.ownBlock]; omega)))
  replace Oq := Lib.hid S9.out.1
  replace X4 := Lib.hid (Gx.grown X4.out S9.out.2 (fun k hk => by cases hk; omega))
  replace H4 := Lib.hid (H4.out.grown S9.out.2 (fun k hk => by cases hk; omega))
  clear S9
  have k0 := own_cellAt_mid Oq.out (j := 0) rfl
  have k1 := own_cellAt_mid Oq.out (j := 1) rfl
  have k2 := own_cellAt_mid Oq.out (j := 2) rfl
  have k3 := own_cellAt_mid Oq.out (j := 3) rfl
  refine bodyPost_ret (v := .agg #[.string nm, .int .i64 (1 + x), .int .i64 (513 - (1 + y)), .int .i64 (1 + y)]) (by simp [results, Try.results30, go_sem, k0, k1, k2, k3]) rfl ⟨_, ⟨_, _, _, rfl⟩, rfl, X4.out, H4.out.up (by omega) hm⟩

set_option maxRecDepth 20000 in
set_option maxHeartbeats 4000000 in
theorem l20Bend_any (f : SFixture) (hf : WfFixture f) (w : World) (s : Nat) (A : Option Addr) (n c : Nat) (L : List Int) (m : Nat) (h : Src w s A n c L m) (hm : m + 4 ≤ 1000000) :
    Calls Try.prog 29 #[.pointer (some ⟨s, 0, none⟩), .agg #[.string f.Name, .int .i64 f.Universe, .int .i64 f.Address, .int .i64 f.Width]] w (Drawn w s A n c L (m + 4) fun v => ∃ x : SFixture, WfFixture x ∧ v = .agg #[.string x.Name, .int .i64 x.Universe, .int .i64 x.Address, .int .i64 x.Width]) := by
  have hsl := h.lt
  have X0 := Lib.hid (Gx.of_G (G.refl w) (some s))
  have H0 := Lib.hid h
  have z0 : w.heap.size ≤ w.heap.size := Nat.le_refl _
  clear h
  have Og := Lib.hid (own_new (w := w) (base := w.heap.size) (n := 1) (cap := 1) (size := 4) (e := 34) (cur := #[.string f.Name, .int .i64 f.Universe, .int .i64 f.Address, .int .i64 f.Width]) (by first | omega | (simp; omega) | simp) (by decide) (by decide) rfl)
  replace X0 := Lib.hid (Gx.trans X0.out (Gx.of_G ((G.refl (w)).alloc (.cells #[.string f.Name, .int .i64 f.Universe, .int .i64 f.Address, .int .i64 f.Width] 34)) (some s)))
  replace H0 := Lib.hid (H0.out.g ((G.refl (w)).alloc (.cells #[.string f.Name, .int .i64 f.Universe, .int .i64 f.Address, .int .i64 f.Width] 34)))
  have Oq := Lib.hid (own_new (w := (w).alloc (.cells #[.string f.Name, .int .i64 f.Universe, .int .i64 f.Address, .int .i64 f.Width] 34)) (base := w.heap.size) (n := 1) (cap := 1) (size := 4) (e := 34) (cur := #[.string ⟨#[]⟩, .int .i64 0, .int .i64 0, .int .i64 0]) (by first | omega | (simp; omega) | simp) (by decide) (by decide) rfl)
  replace Og := Lib.hid (own_G Og.out ((G.refl ((w).alloc (.cells #[.string f.Name, .int .i64 f.Universe, .int .i64 f.Address, .int .i64 f.Width] 34))).alloc (.cells #[.string ⟨#[]⟩, .int .i64 0, .int .i64 0, .int .i64 0] 34)))
  replace X0 := Lib.hid (Gx.trans X0.out (Gx.of_G ((G.refl ((w).alloc (.cells #[.string f.Name, .int .i64 f.Universe, .int .i64 f.Address, .int .i64 f.Width] 34))).alloc (.cells #[.string ⟨#[]⟩, .int .i64 0, .int .i64 0, .int .i64 0] 34)) (some s)))
  replace H0 := Lib.hid (H0.out.g ((G.refl ((w).alloc (.cells #[.string f.Name, .int .i64 f.Universe, .int .i64 f.Address, .int .i64 f.Width] 34))).alloc (.cells #[.string ⟨#[]⟩, .int .i64 0, .int .i64 0, .int .i64 0] 34)))
  go_enter Try.func29, Try.ntmps29
  go_wp2_with fail
  refine (pick_any 22 _ s A n c L m H0.out (by omega) (by omega)).mono ?_
  rintro e w1 ⟨v1, ⟨x, hx0, hx1, rfl⟩, rfl, g1, h1⟩
  replace Og := Lib.hid (own_src Og.out (by omega) g1)
  replace Oq := Lib.hid (own_src Oq.out (by omega) g1)
  have X1 := Lib.hid (Gx.trans X0.out g1)
  have H1 := Lib.hid h1
  have z1 := World.grownBy.size X1.out
  clear g1 h1 X0 H0
  dsimp only
  have hne : w.heap.size ≠ w.heap.size + 1 := by omega
  have eq : (w.alloc (.cells #[.string f.Name, .int .i64 f.Universe, .int .i64 f.Address, .int .i64 f.Width] 34)).heap.size = w.heap.size + 1 := by simp
  rw [eq] at Oq
  obtain ⟨g, HQg⟩ : ∃ q : Nat, Hid (w.heap.size = q) := ⟨_, rfl⟩
  obtain ⟨q, HQq⟩ : ∃ q : Nat, Hid (w.heap.size + 1 = q) := ⟨_, rfl⟩
  have bg : w.heap.size ≤ g := by rw [← HQg.out]; exact Nat.le_refl _
  have bq : w.heap.size ≤ q := by rw [← HQq.out]; omega
  rw [HQq.out, HQg.out] at hne
  rw [HQq.out] at Oq
  have Og2 := Og
  clear Og
  have Og : Hid (w1.ownsRow w.heap.size 34 4 (.slice (some ⟨g, 0, none⟩) 1 1) 1 [.string f.Name, .int .i64 f.Universe, .int .i64 f.Address, .int .i64 f.Width]) := Lib.hid (by rw [← HQg.out]; exact Og2.out)
  clear Og2 eq
  rw [HQq.out, HQg.out]
  by_cases c0 : x = 0
  · subst c0
    go_wp2_with fail
    have gx := (G.refl w1).alloc (.cells #[.int .i64 0, .int .i64 8, .int .i64 9] 2)
    replace X1 := Lib.hid (Gx.trans X1.out (Gx.of_G gx (some s)))
    replace H1 := Lib.hid (H1.out.g gx)
    replace Og := Lib.hid (own_G Og.out gx)
    replace Oq := Lib.hid (own_G Oq.out gx)
    skip
    refine (among_any (some ⟨w1.heap.size, 0, none⟩) 3 3 [0, 8, 9] _ s A n c L (m + 2) H1.out (by omega) (rd_lit w1 [0, 8, 9] _) rfl (by omega) (by omega) (fun a ha => by cases ha; simp only; omega)).mono ?_
    rintro e w2 ⟨v2, ⟨y, hy, rfl⟩, rfl, g2, h2⟩
    replace Og := Lib.hid (own_src Og.out (by omega) g2)
    replace Oq := Lib.hid (own_src Oq.out (by omega) g2)
    have X2 := Lib.hid (Gx.trans X1.out g2)
    have H2 := Lib.hid h2
    have z2 := World.grownBy.size X2.out
    clear g2 h2 X1 H1
    dsimp only
    have hcg0 := own_cellAt_mid Og.out (j := 0) rfl
    have hyg0 := own_frozen_of Og.out 0
    have hcg1 := own_cellAt_mid Og.out (j := 1) rfl
    have hyg1 := own_frozen_of Og.out 1
    have hcg2 := own_cellAt_mid Og.out (j := 2) rfl
    have hyg2 := own_frozen_of Og.out 2
    have hcg3 := own_cellAt_mid Og.out (j := 3) rfl
    have hyg3 := own_frozen_of Og.out 3
    have hcq0 := own_cellAt_mid Oq.out (j := 0) rfl
    have hyq0 := own_frozen_of Oq.out 0
    have hcq1 := own_cellAt_mid Oq.out (j := 1) rfl
    have hyq1 := own_frozen_of Oq.out 1
    have hcq2 := own_cellAt_mid Oq.out (j := 2) rfl
    have hyq2 := own_frozen_of Oq.out 2
    have hcq3 := own_cellAt_mid Oq.out (j := 3) rfl
    have hyq3 := own_frozen_of Oq.out 3
    go_wp2
    clear hcg0 hyg0 hcg1 hyg1 hcg2 hyg2 hcg3 hyg3 hcq0 hyq0 hcq1 hyq1 hcq2 hyq2 hcq3 hyq3
    have S3 := Lib.hid (Og.out.stored 1 (.int .i64 y))
    replace Oq := Lib.hid (own_Gx Oq.out S3.out.2 (.inr (by simp [Value.ownBlock]; omega)))
    replace Og := Lib.hid S3.out.1
    replace X2 := Lib.hid (Gx.grown X2.out S3.out.2 (fun k hk => by cases hk; omega))
    replace H2 := Lib.hid (H2.out.grown S3.out.2 (fun k hk => by cases hk; omega))
    clear S3
    have S4 := Lib.hid (Oq.out.stored 0 (.string f.Name))
    replace Og := Lib.hid (own_Gx Og.out S4.out.2 (.inr (by simp [Value.ownBlock]; omega)))
    replace Oq := Lib.hid S4.out.1
    replace X2 := Lib.hid (Gx.grown X2.out S4.out.2 (fun k hk => by cases hk; omega))
    replace H2 := Lib.hid (H2.out.grown S4.out.2 (fun k hk => by cases hk; omega))
    clear S4
    have S5 := Lib.hid (Oq.out.stored 1 (.int .i64 y))
    replace Og := Lib.hid (own_Gx Og.out S5.out.2 (.inr (by simp [Value.ownBlock]; omega)))
    replace Oq := Lib.hid S5.out.1
    replace X2 := Lib.hid (Gx.grown X2.out S5.out.2 (fun k hk => by cases hk; omega))
    replace H2 := Lib.hid (H2.out.grown S5.out.2 (fun k hk => by cases hk; omega))
    clear S5
    have S6 := Lib.hid (Oq.out.stored 2 (.int .i64 f.Address))
    replace Og := Lib.hid (own_Gx Og.out S6.out.2 (.inr (by simp [Value.ownBlock]; omega)))
    replace Oq := Lib.hid S6.out.1
    replace X2 := Lib.hid (Gx.grown X2.out S6.out.2 (fun k hk => by cases hk; omega))
    replace H2 := Lib.hid (H2.out.grown S6.out.2 (fun k hk => by cases hk; omega))
    clear S6
    have S7 := Lib.hid (Oq.out.stored 3 (.int .i64 f.Width))
    replace Og := Lib.hid (own_Gx Og.out S7.out.2 (.inr (by simp [Value.ownBlock]; omega)))
    replace Oq := Lib.hid S7.out.1
    replace X2 := Lib.hid (Gx.grown X2.out S7.out.2 (fun k hk => by cases hk; omega))
    replace H2 := Lib.hid (H2.out.grown S7.out.2 (fun k hk => by cases hk; omega))
    clear S7
    have k0 := own_cellAt_mid Oq.out (j := 0) rfl
    have k1 := own_cellAt_mid Oq.out (j := 1) rfl
    have k2 := own_cellAt_mid Oq.out (j := 2) rfl
    have k3 := own_cellAt_mid Oq.out (j := 3) rfl
    refine bodyPost_ret (v := .agg #[.string f.Name, .int .i64 y, .int .i64 f.Address, .int .i64 f.Width]) (by simp [results, Try.results29, go_sem, k0, k1, k2, k3]) rfl ⟨_, ⟨⟨f.Name, y, f.Address, f.Width⟩, hf, rfl⟩, rfl, X2.out, H2.out.up (by omega) hm⟩
  by_cases c1 : x = 1
  · subst c1
    go_wp2_with fail
    have gx := (G.refl w1).alloc (.cells #[.int .i64 0, .int .i64 64, .int .i64 65] 2)
    replace X1 := Lib.hid (Gx.trans X1.out (Gx.of_G gx (some s)))
    replace H1 := Lib.hid (H1.out.g gx)
    replace Og := Lib.hid (own_G Og.out gx)
    replace Oq := Lib.hid (own_G Oq.out gx)
    skip
    refine (among_any (some ⟨w1.heap.size, 0, none⟩) 3 3 [0, 64, 65] _ s A n c L (m + 2) H1.out (by omega) (rd_lit w1 [0, 64, 65] _) rfl (by omega) (by omega) (fun a ha => by cases ha; simp only; omega)).mono ?_
    rintro e w2 ⟨v2, ⟨y, hy, rfl⟩, rfl, g2, h2⟩
    replace Og := Lib.hid (own_src Og.out (by omega) g2)
    replace Oq := Lib.hid (own_src Oq.out (by omega) g2)
    have X2 := Lib.hid (Gx.trans X1.out g2)
    have H2 := Lib.hid h2
    have z2 := World.grownBy.size X2.out
    clear g2 h2 X1 H1
    dsimp only
    have hcg0 := own_cellAt_mid Og.out (j := 0) rfl
    have hyg0 := own_frozen_of Og.out 0
    have hcg1 := own_cellAt_mid Og.out (j := 1) rfl
    have hyg1 := own_frozen_of Og.out 1
    have hcg2 := own_cellAt_mid Og.out (j := 2) rfl
    have hyg2 := own_frozen_of Og.out 2
    have hcg3 := own_cellAt_mid Og.out (j := 3) rfl
    have hyg3 := own_frozen_of Og.out 3
    have hcq0 := own_cellAt_mid Oq.out (j := 0) rfl
    have hyq0 := own_frozen_of Oq.out 0
    have hcq1 := own_cellAt_mid Oq.out (j := 1) rfl
    have hyq1 := own_frozen_of Oq.out 1
    have hcq2 := own_cellAt_mid Oq.out (j := 2) rfl
    have hyq2 := own_frozen_of Oq.out 2
    have hcq3 := own_cellAt_mid Oq.out (j := 3) rfl
    have hyq3 := own_frozen_of Oq.out 3
    go_wp2
    clear hcg0 hyg0 hcg1 hyg1 hcg2 hyg2 hcg3 hyg3 hcq0 hyq0 hcq1 hyq1 hcq2 hyq2 hcq3 hyq3
    have S3 := Lib.hid (Og.out.stored 3 (.int .i64 y))
    replace Oq := Lib.hid (own_Gx Oq.out S3.out.2 (.inr (by simp [Value.ownBlock]; omega)))
    replace Og := Lib.hid S3.out.1
    replace X2 := Lib.hid (Gx.grown X2.out S3.out.2 (fun k hk => by cases hk; omega))
    replace H2 := Lib.hid (H2.out.grown S3.out.2 (fun k hk => by cases hk; omega))
    clear S3
    have S4 := Lib.hid (Oq.out.stored 0 (.string f.Name))
    replace Og := Lib.hid (own_Gx Og.out S4.out.2 (.inr (by simp [Value.ownBlock]; omega)))
    replace Oq := Lib.hid S4.out.1
    replace X2 := Lib.hid (Gx.grown X2.out S4.out.2 (fun k hk => by cases hk; omega))
    replace H2 := Lib.hid (H2.out.grown S4.out.2 (fun k hk => by cases hk; omega))
    clear S4
    have S5 := Lib.hid (Oq.out.stored 1 (.int .i64 f.Universe))
    replace Og := Lib.hid (own_Gx Og.out S5.out.2 (.inr (by simp [Value.ownBlock]; omega)))
    replace Oq := Lib.hid S5.out.1
    replace X2 := Lib.hid (Gx.grown X2.out S5.out.2 (fun k hk => by cases hk; omega))
    replace H2 := Lib.hid (H2.out.grown S5.out.2 (fun k hk => by cases hk; omega))
    clear S5
    have S6 := Lib.hid (Oq.out.stored 2 (.int .i64 f.Address))
    replace Og := Lib.hid (own_Gx Og.out S6.out.2 (.inr (by simp [Value.ownBlock]; omega)))
    replace Oq := Lib.hid S6.out.1
    replace X2 := Lib.hid (Gx.grown X2.out S6.out.2 (fun k hk => by cases hk; omega))
    replace H2 := Lib.hid (H2.out.grown S6.out.2 (fun k hk => by cases hk; omega))
    clear S6
    have S7 := Lib.hid (Oq.out.stored 3 (.int .i64 y))
    replace Og := Lib.hid (own_Gx Og.out S7.out.2 (.inr (by simp [Value.ownBlock]; omega)))
    replace Oq := Lib.hid S7.out.1
    replace X2 := Lib.hid (Gx.grown X2.out S7.out.2 (fun k hk => by cases hk; omega))
    replace H2 := Lib.hid (H2.out.grown S7.out.2 (fun k hk => by cases hk; omega))
    clear S7
    have k0 := own_cellAt_mid Oq.out (j := 0) rfl
    have k1 := own_cellAt_mid Oq.out (j := 1) rfl
    have k2 := own_cellAt_mid Oq.out (j := 2) rfl
    have k3 := own_cellAt_mid Oq.out (j := 3) rfl
    refine bodyPost_ret (v := .agg #[.string f.Name, .int .i64 f.Universe, .int .i64 f.Address, .int .i64 y]) (by simp [results, Try.results29, go_sem, k0, k1, k2, k3]) rfl ⟨_, ⟨⟨f.Name, f.Universe, f.Address, y⟩, hf, rfl⟩, rfl, X2.out, H2.out.up (by omega) hm⟩
  by_cases c2 : x = 2
  · subst c2
    go_wp2_with fail
    have gx := (G.refl w1).alloc (.cells #[.int .i64 0, .int .i64 512, .int .i64 513] 2)
    replace X1 := Lib.hid (Gx.trans X1.out (Gx.of_G gx (some s)))
    replace H1 := Lib.hid (H1.out.g gx)
    replace Og := Lib.hid (own_G Og.out gx)
    replace Oq := Lib.hid (own_G Oq.out gx)
    skip
    refine (among_any (some ⟨w1.heap.size, 0, none⟩) 3 3 [0, 512, 513] _ s A n c L (m + 2) H1.out (by omega) (rd_lit w1 [0, 512, 513] _) rfl (by omega) (by omega) (fun a ha => by cases ha; simp only; omega)).mono ?_
    rintro e w2 ⟨v2, ⟨y, hy, rfl⟩, rfl, g2, h2⟩
    replace Og := Lib.hid (own_src Og.out (by omega) g2)
    replace Oq := Lib.hid (own_src Oq.out (by omega) g2)
    have X2 := Lib.hid (Gx.trans X1.out g2)
    have H2 := Lib.hid h2
    have z2 := World.grownBy.size X2.out
    clear g2 h2 X1 H1
    dsimp only
    have hcg0 := own_cellAt_mid Og.out (j := 0) rfl
    have hyg0 := own_frozen_of Og.out 0
    have hcg1 := own_cellAt_mid Og.out (j := 1) rfl
    have hyg1 := own_frozen_of Og.out 1
    have hcg2 := own_cellAt_mid Og.out (j := 2) rfl
    have hyg2 := own_frozen_of Og.out 2
    have hcg3 := own_cellAt_mid Og.out (j := 3) rfl
    have hyg3 := own_frozen_of Og.out 3
    have hcq0 := own_cellAt_mid Oq.out (j := 0) rfl
    have hyq0 := own_frozen_of Oq.out 0
    have hcq1 := own_cellAt_mid Oq.out (j := 1) rfl
    have hyq1 := own_frozen_of Oq.out 1
    have hcq2 := own_cellAt_mid Oq.out (j := 2) rfl
    have hyq2 := own_frozen_of Oq.out 2
    have hcq3 := own_cellAt_mid Oq.out (j := 3) rfl
    have hyq3 := own_frozen_of Oq.out 3
    go_wp2
    clear hcg0 hyg0 hcg1 hyg1 hcg2 hyg2 hcg3 hyg3 hcq0 hyq0 hcq1 hyq1 hcq2 hyq2 hcq3 hyq3
    have S3 := Lib.hid (Og.out.stored 2 (.int .i64 y))
    replace Oq := Lib.hid (own_Gx Oq.out S3.out.2 (.inr (by simp [Value.ownBlock]; omega)))
    replace Og := Lib.hid S3.out.1
    replace X2 := Lib.hid (Gx.grown X2.out S3.out.2 (fun k hk => by cases hk; omega))
    replace H2 := Lib.hid (H2.out.grown S3.out.2 (fun k hk => by cases hk; omega))
    clear S3
    have S4 := Lib.hid (Oq.out.stored 0 (.string f.Name))
    replace Og := Lib.hid (own_Gx Og.out S4.out.2 (.inr (by simp [Value.ownBlock]; omega)))
    replace Oq := Lib.hid S4.out.1
    replace X2 := Lib.hid (Gx.grown X2.out S4.out.2 (fun k hk => by cases hk; omega))
    replace H2 := Lib.hid (H2.out.grown S4.out.2 (fun k hk => by cases hk; omega))
    clear S4
    have S5 := Lib.hid (Oq.out.stored 1 (.int .i64 f.Universe))
    replace Og := Lib.hid (own_Gx Og.out S5.out.2 (.inr (by simp [Value.ownBlock]; omega)))
    replace Oq := Lib.hid S5.out.1
    replace X2 := Lib.hid (Gx.grown X2.out S5.out.2 (fun k hk => by cases hk; omega))
    replace H2 := Lib.hid (H2.out.grown S5.out.2 (fun k hk => by cases hk; omega))
    clear S5
    have S6 := Lib.hid (Oq.out.stored 2 (.int .i64 y))
    replace Og := Lib.hid (own_Gx Og.out S6.out.2 (.inr (by simp [Value.ownBlock]; omega)))
    replace Oq := Lib.hid S6.out.1
    replace X2 := Lib.hid (Gx.grown X2.out S6.out.2 (fun k hk => by cases hk; omega))
    replace H2 := Lib.hid (H2.out.grown S6.out.2 (fun k hk => by cases hk; omega))
    clear S6
    have S7 := Lib.hid (Oq.out.stored 3 (.int .i64 f.Width))
    replace Og := Lib.hid (own_Gx Og.out S7.out.2 (.inr (by simp [Value.ownBlock]; omega)))
    replace Oq := Lib.hid S7.out.1
    replace X2 := Lib.hid (Gx.grown X2.out S7.out.2 (fun k hk => by cases hk; omega))
    replace H2 := Lib.hid (H2.out.grown S7.out.2 (fun k hk => by cases hk; omega))
    clear S7
    have k0 := own_cellAt_mid Oq.out (j := 0) rfl
    have k1 := own_cellAt_mid Oq.out (j := 1) rfl
    have k2 := own_cellAt_mid Oq.out (j := 2) rfl
    have k3 := own_cellAt_mid Oq.out (j := 3) rfl
    refine bodyPost_ret (v := .agg #[.string f.Name, .int .i64 f.Universe, .int .i64 y, .int .i64 f.Width]) (by simp [results, Try.results29, go_sem, k0, k1, k2, k3]) rfl ⟨_, ⟨⟨f.Name, f.Universe, y, f.Width⟩, hf, rfl⟩, rfl, X2.out, H2.out.up (by omega) hm⟩
  by_cases c3 : x = 3
  · subst c3
    go_wp2_with fail
    have gx := (G.refl w1).alloc (.cells #[.string ⟨#[]⟩, .string ⟨#[83]⟩] 9)
    replace X1 := Lib.hid (Gx.trans X1.out (Gx.of_G gx (some s)))
    replace H1 := Lib.hid (H1.out.g gx)
    replace Og := Lib.hid (own_G Og.out gx)
    replace Oq := Lib.hid (own_G Oq.out gx)
    skip
    refine (text_any (some ⟨w1.heap.size, 0, none⟩) 2 2 [⟨#[]⟩, ⟨#[83]⟩] H1.out (by omega) (rd_lits w1 [⟨#[]⟩, ⟨#[83]⟩] _) rfl (by omega) (by omega) (fun a ha => by cases ha; simp only; omega)).mono ?_
    rintro e w2 ⟨v2, ⟨y, hy, rfl⟩, rfl, g2, h2⟩
    replace Og := Lib.hid (own_src Og.out (by omega) g2)
    replace Oq := Lib.hid (own_src Oq.out (by omega) g2)
    have X2 := Lib.hid (Gx.trans X1.out g2)
    have H2 := Lib.hid h2
    have z2 := World.grownBy.size X2.out
    clear g2 h2 X1 H1
    dsimp only
    have hys : y.size ≤ maxLen := by simp only [List.mem_cons, List.not_mem_nil, or_false] at hy; rcases hy with rfl | rfl <;> decide
    have hcg0 := own_cellAt_mid Og.out (j := 0) rfl
    have hyg0 := own_frozen_of Og.out 0
    have hcg1 := own_cellAt_mid Og.out (j := 1) rfl
    have hyg1 := own_frozen_of Og.out 1
    have hcg2 := own_cellAt_mid Og.out (j := 2) rfl
    have hyg2 := own_frozen_of Og.out 2
    have hcg3 := own_cellAt_mid Og.out (j := 3) rfl
    have hyg3 := own_frozen_of Og.out 3
    have hcq0 := own_cellAt_mid Oq.out (j := 0) rfl
    have hyq0 := own_frozen_of Oq.out 0
    have hcq1 := own_cellAt_mid Oq.out (j := 1) rfl
    have hyq1 := own_frozen_of Oq.out 1
    have hcq2 := own_cellAt_mid Oq.out (j := 2) rfl
    have hyq2 := own_frozen_of Oq.out 2
    have hcq3 := own_cellAt_mid Oq.out (j := 3) rfl
    have hyq3 := own_frozen_of Oq.out 3
    go_wp2
    clear hcg0 hyg0 hcg1 hyg1 hcg2 hyg2 hcg3 hyg3 hcq0 hyq0 hcq1 hyq1 hcq2 hyq2 hcq3 hyq3
    have S3 := Lib.hid (Og.out.stored 0 (.string y))
    replace Oq := Lib.hid (own_Gx Oq.out S3.out.2 (.inr (by simp [Value.ownBlock]; omega)))
    replace Og := Lib.hid S3.out.1
    replace X2 := Lib.hid (Gx.grown X2.out S3.out.2 (fun k hk => by cases hk; omega))
    replace H2 := Lib.hid (H2.out.grown S3.out.2 (fun k hk => by cases hk; omega))
    clear S3
    have S4 := Lib.hid (Oq.out.stored 0 (.string y))
    replace Og := Lib.hid (own_Gx Og.out S4.out.2 (.inr (by simp [Value.ownBlock]; omega)))
    replace Oq := Lib.hid S4.out.1
    replace X2 := Lib.hid (Gx.grown X2.out S4.out.2 (fun k hk => by cases hk; omega))
    replace H2 := Lib.hid (H2.out.grown S4.out.2 (fun k hk => by cases hk; omega))
    clear S4
    have S5 := Lib.hid (Oq.out.stored 1 (.int .i64 f.Universe))
    replace Og := Lib.hid (own_Gx Og.out S5.out.2 (.inr (by simp [Value.ownBlock]; omega)))
    replace Oq := Lib.hid S5.out.1
    replace X2 := Lib.hid (Gx.grown X2.out S5.out.2 (fun k hk => by cases hk; omega))
    replace H2 := Lib.hid (H2.out.grown S5.out.2 (fun k hk => by cases hk; omega))
    clear S5
    have S6 := Lib.hid (Oq.out.stored 2 (.int .i64 f.Address))
    replace Og := Lib.hid (own_Gx Og.out S6.out.2 (.inr (by simp [Value.ownBlock]; omega)))
    replace Oq := Lib.hid S6.out.1
    replace X2 := Lib.hid (Gx.grown X2.out S6.out.2 (fun k hk => by cases hk; omega))
    replace H2 := Lib.hid (H2.out.grown S6.out.2 (fun k hk => by cases hk; omega))
    clear S6
    have S7 := Lib.hid (Oq.out.stored 3 (.int .i64 f.Width))
    replace Og := Lib.hid (own_Gx Og.out S7.out.2 (.inr (by simp [Value.ownBlock]; omega)))
    replace Oq := Lib.hid S7.out.1
    replace X2 := Lib.hid (Gx.grown X2.out S7.out.2 (fun k hk => by cases hk; omega))
    replace H2 := Lib.hid (H2.out.grown S7.out.2 (fun k hk => by cases hk; omega))
    clear S7
    have k0 := own_cellAt_mid Oq.out (j := 0) rfl
    have k1 := own_cellAt_mid Oq.out (j := 1) rfl
    have k2 := own_cellAt_mid Oq.out (j := 2) rfl
    have k3 := own_cellAt_mid Oq.out (j := 3) rfl
    refine bodyPost_ret (v := .agg #[.string y, .int .i64 f.Universe, .int .i64 f.Address, .int .i64 f.Width]) (by simp [results, Try.results29, go_sem, k0, k1, k2, k3]) rfl ⟨_, ⟨⟨y, f.Universe, f.Address, f.Width⟩, hys, rfl⟩, rfl, X2.out, H2.out.up (by omega) hm⟩
  have d0 : ((x : Int) == 0) = false := by simp [c0]
  have d1 : ((x : Int) == 1) = false := by simp [c1]
  have d2 : ((x : Int) == 2) = false := by simp [c2]
  have d3 : ((x : Int) == 3) = false := by simp [c3]
  clear c0 c1 c2 c3
  have hcg0 := own_cellAt_mid Og.out (j := 0) rfl
  have hyg0 := own_frozen_of Og.out 0
  have hcg1 := own_cellAt_mid Og.out (j := 1) rfl
  have hyg1 := own_frozen_of Og.out 1
  have hcg2 := own_cellAt_mid Og.out (j := 2) rfl
  have hyg2 := own_frozen_of Og.out 2
  have hcg3 := own_cellAt_mid Og.out (j := 3) rfl
  have hyg3 := own_frozen_of Og.out 3
  have hcq0 := own_cellAt_mid Oq.out (j := 0) rfl
  have hyq0 := own_frozen_of Oq.out 0
  have hcq1 := own_cellAt_mid Oq.out (j := 1) rfl
  have hyq1 := own_frozen_of Oq.out 1
  have hcq2 := own_cellAt_mid Oq.out (j := 2) rfl
  have hyq2 := own_frozen_of Oq.out 2
  have hcq3 := own_cellAt_mid Oq.out (j := 3) rfl
  have hyq3 := own_frozen_of Oq.out 3
  go_wp2
  clear hcg0 hyg0 hcg1 hyg1 hcg2 hyg2 hcg3 hyg3 hcq0 hyq0 hcq1 hyq1 hcq2 hyq2 hcq3 hyq3
  have S3 := Lib.hid (Oq.out.stored 0 (.string f.Name))
  replace Og := Lib.hid (own_Gx Og.out S3.out.2 (.inr (by simp [Value.ownBlock]; omega)))
  replace Oq := Lib.hid S3.out.1
  replace X1 := Lib.hid (Gx.grown X1.out S3.out.2 (fun k hk => by cases hk; omega))
  replace H1 := Lib.hid (H1.out.grown S3.out.2 (fun k hk => by cases hk; omega))
  clear S3
  have S4 := Lib.hid (Oq.out.stored 1 (.int .i64 f.Universe))
  replace Og := Lib.hid (own_Gx Og.out S4.out.2 (.inr (by simp [Value.ownBlock]; omega)))
  replace Oq := Lib.hid S4.out.1
  replace X1 := Lib.hid (Gx.grown X1.out S4.out.2 (fun k hk => by cases hk; omega))
  replace H1 := Lib.hid (H1.out.grown S4.out.2 (fun k hk => by cases hk; omega))
  clear S4
  have S5 := Lib.hid (Oq.out.stored 2 (.int .i64 f.Address))
  replace Og := Lib.hid (own_Gx Og.out S5.out.2 (.inr (by simp [Value.ownBlock]; omega)))
  replace Oq := Lib.hid S5.out.1
  replace X1 := Lib.hid (Gx.grown X1.out S5.out.2 (fun k hk => by cases hk; omega))
  replace H1 := Lib.hid (H1.out.grown S5.out.2 (fun k hk => by cases hk; omega))
  clear S5
  have S6 := Lib.hid (Oq.out.stored 3 (.int .i64 f.Width))
  replace Og := Lib.hid (own_Gx Og.out S6.out.2 (.inr (by simp [Value.ownBlock]; omega)))
  replace Oq := Lib.hid S6.out.1
  replace X1 := Lib.hid (Gx.grown X1.out S6.out.2 (fun k hk => by cases hk; omega))
  replace H1 := Lib.hid (H1.out.grown S6.out.2 (fun k hk => by cases hk; omega))
  clear S6
  have k0 := own_cellAt_mid Oq.out (j := 0) rfl
  have k1 := own_cellAt_mid Oq.out (j := 1) rfl
  have k2 := own_cellAt_mid Oq.out (j := 2) rfl
  have k3 := own_cellAt_mid Oq.out (j := 3) rfl
  refine bodyPost_ret (v := .agg #[.string f.Name, .int .i64 f.Universe, .int .i64 f.Address, .int .i64 f.Width]) (by simp [results, Try.results29, go_sem, k0, k1, k2, k3]) rfl ⟨_, ⟨f, hf, rfl⟩, rfl, X1.out, H1.out.up (by omega) hm⟩
end Go.Proofs.Ytckenipmebeopaa
