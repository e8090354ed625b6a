/-
  Walks: frames, times and rates drawn from bytes.
-/
import Derived.Test.YtcoaldhmofdfgaaDoorSrc
namespace Go.Proofs.YtcoaldhmofdfgaaDoor
open Go.RowKit

set_option maxHeartbeats 4000000 in
theorem l16DrawRate_any (w : World) (s : Nat) (A : Option Addr) (n c : Nat) (L : List Int) (m : Nat) (h : Src w s A n c L m) (hm : m + 10 ≤ 1000000) :
    Calls Tryd.prog 43 #[.pointer (some ⟨s, 0, none⟩)] w (Drawn w s A n c L (m + 10) fun v => ∃ x : Int, v = .int .i64 x) := by
  have hsl := h.lt
  have X0 := Lib.hid (Gx.of_G (G.refl w) (some s))
  have H0 := Lib.hid h
  have z0 : w.heap.size ≤ w.heap.size := Nat.le_refl _
  clear h
  go_enter Tryd.func43, Tryd.ntmps43
  go_wp2_with fail
  have gx := (G.refl w).alloc (.cells #[.int .i64 24, .int .i64 25, .int .i64 30, .int .i64 24, .int .i64 25, .int .i64 30, .int .i64 30, .int .i64 0, .int .i64 60] 2)
  refine (among_any (some ⟨w.heap.size, 0, none⟩) 9 9 [24, 25, 30, 24, 25, 30, 30, 0, 60] _ s A n c L m (H0.out.g gx) (by omega) (rd_lit w [24, 25, 30, 24, 25, 30, 30, 0, 60] _) rfl (by omega) (by omega) (fun a ha => by cases ha; simp only; omega)).mono ?_
  rintro e w1 ⟨v1, ⟨x1, hx1, rfl⟩, rfl, g1, h1⟩
  have X1 := Lib.hid (Gx.trans X0.out (Gx.trans (Gx.of_G gx (some s)) g1))
  have H1 := Lib.hid h1
  have z1 := World.grownBy.size X1.out
  clear g1 h1 X0 H0 gx
  dsimp only
  go_wp2
  go_ret
  exact ⟨_, ⟨_, rfl⟩, rfl, X1.out, H1.out.up (by omega) hm⟩
set_option maxHeartbeats 4000000 in
theorem l16DrawMilli_any (w : World) (s : Nat) (A : Option Addr) (n c : Nat) (L : List Int) (m : Nat) (h : Src w s A n c L m) (hm : m + 10 ≤ 1000000) :
    Calls Tryd.prog 53 #[.pointer (some ⟨s, 0, none⟩)] w (Drawn w s A n c L (m + 10) fun v => ∃ x : Int, v = .int .i64 x) := by
  have hsl := h.lt
  have X0 := Lib.hid (Gx.of_G (G.refl w) (some s))
  have H0 := Lib.hid h
  have z0 : w.heap.size ≤ w.heap.size := Nat.le_refl _
  clear h
  go_enter Tryd.func53, Tryd.ntmps53
  go_wp2_with fail
  refine (one_any 9 _ s A n c L m H0.out (by omega) (by omega)).mono ?_
  rintro e w1 ⟨v1, ⟨b1, rfl⟩, rfl, g1, h1⟩
  have X1 := Lib.hid (Gx.trans X0.out g1)
  have H1 := Lib.hid h1
  have z1 := World.grownBy.size X1.out
  clear g1 h1 X0 H0
  dsimp only
  cases b1
  case true =>
    go_wp2_with fail
    have gx := (G.refl w1).alloc (.cells #[.int .i64 (-1), .int .i64 0, .int .i64 86400000, .int .i64 86400001] 2)
    refine (among_any (some ⟨w1.heap.size, 0, none⟩) 4 4 [-1, 0, 86400000, 86400001] _ s A n c L (m + 2) (H1.out.g gx) (by omega) (rd_lit w1 [-1, 0, 86400000, 86400001] _) rfl (by omega) (by omega) (fun a ha => by cases ha; simp only; omega)).mono ?_
    rintro e w2 ⟨v2, ⟨x2, hx2, rfl⟩, rfl, g2, h2⟩
    have X2 := Lib.hid (Gx.trans X1.out (Gx.trans (Gx.of_G gx (some s)) g2))
    have H2 := Lib.hid h2
    have z2 := World.grownBy.size X2.out
    clear g2 h2 X1 H1 gx
    dsimp only
    go_wp2
    go_ret
    exact ⟨_, ⟨_, rfl⟩, rfl, X2.out, H2.out.up (by omega) hm⟩
  case false =>
    go_wp2_with fail
    refine (pick_any 86400001 _ s A n c L (m + 2) H1.out (by omega) (by omega)).mono ?_
    rintro e w2 ⟨v2, ⟨q2, hq2, hp2, rfl⟩, rfl, g2, h2⟩
    have X2 := Lib.hid (Gx.trans X1.out g2)
    have H2 := Lib.hid h2
    have z2 := World.grownBy.size X2.out
    clear g2 h2 X1 H1
    dsimp only
    go_wp2
    go_ret
    exact ⟨_, ⟨_, rfl⟩, rfl, X2.out, H2.out.up (by omega) hm⟩
set_option maxHeartbeats 4000000 in
theorem l16DrawFrame_any (w : World) (s : Nat) (A : Option Addr) (n c : Nat) (L : List Int) (m : Nat) (h : Src w s A n c L m) (hm : m + 10 ≤ 1000000) :
    Calls Tryd.prog 42 #[.pointer (some ⟨s, 0, none⟩)] w (Drawn w s A n c L (m + 10) fun v => ∃ x : Int, v = .int .i64 x) := by
  have hsl := h.lt
  have X0 := Lib.hid (Gx.of_G (G.refl w) (some s))
  have H0 := Lib.hid h
  have z0 : w.heap.size ≤ w.heap.size := Nat.le_refl _
  clear h
  go_enter Tryd.func42, Tryd.ntmps42
  go_wp2_with fail
  refine (pick_any 6 _ s A n c L m H0.out (by omega) (by omega)).mono ?_
  rintro e w1 ⟨v1, ⟨q1, hq1, hp1, rfl⟩, rfl, g1, h1⟩
  have X1 := Lib.hid (Gx.trans X0.out g1)
  have H1 := Lib.hid h1
  have z1 := World.grownBy.size X1.out
  clear g1 h1 X0 H0
  dsimp only
  by_cases e0 : q1 = 0
  · subst e0
    go_wp2_with fail
    have gx := (G.refl w1).alloc (.cells #[.int .i64 (-1), .int .i64 0, .int .i64 8640000, .int .i64 8640001, .int .i64 2589407, .int .i64 2589408, .int .i64 2073599, .int .i64 2073600, .int .i64 2159999, .int .i64 2160000] 2)
    refine (among_any (some ⟨w1.heap.size, 0, none⟩) 10 10 [-1, 0, 8640000, 8640001, 2589407, 2589408, 2073599, 2073600, 2159999, 2160000] _ s A n c L (m + 2) (H1.out.g gx) (by omega) (rd_lit w1 [-1, 0, 8640000, 8640001, 2589407, 2589408, 2073599, 2073600, 2159999, 2160000] _) rfl (by omega) (by omega) (fun a ha => by cases ha; simp only; omega)).mono ?_
    rintro e w2 ⟨v2, ⟨x2, hx2, rfl⟩, rfl, g2, h2⟩
    have X2 := Lib.hid (Gx.trans X1.out (Gx.trans (Gx.of_G gx (some s)) g2))
    have H2 := Lib.hid h2
    have z2 := World.grownBy.size X2.out
    clear g2 h2 X1 H1 gx
    dsimp only
    go_wp2
    go_ret
    exact ⟨_, ⟨_, rfl⟩, rfl, X2.out, H2.out.up (by omega) hm⟩
  by_cases e1 : q1 = 1
  · subst e1
    go_wp2_with fail
    refine (pick_any 40 _ s A n c L (m + 2) H1.out (by omega) (by omega)).mono ?_
    rintro e w2 ⟨v2, ⟨q2, hq2, hp2, rfl⟩, rfl, g2, h2⟩
    have X2 := Lib.hid (Gx.trans X1.out g2)
    have H2 := Lib.hid h2
    have z2 := World.grownBy.size X2.out
    clear g2 h2 X1 H1
    dsimp only
    go_wp2_with fail
    have gx := (G.refl w2).alloc (.cells #[.int .i64 0, .int .i64 1, .int .i64 2, .int .i64 3] 2)
    refine (among_any (some ⟨w2.heap.size, 0, none⟩) 4 4 [0, 1, 2, 3] _ s A n c L (m + 4) (H2.out.g gx) (by omega) (rd_lit w2 [0, 1, 2, 3] _) rfl (by omega) (by omega) (fun a ha => by cases ha; simp only; omega)).mono ?_
    rintro e w3 ⟨v3, ⟨x3, hx3, rfl⟩, rfl, g3, h3⟩
    have X3 := Lib.hid (Gx.trans X2.out (Gx.trans (Gx.of_G gx (some s)) g3))
    have H3 := Lib.hid h3
    have z3 := World.grownBy.size X3.out
    clear g3 h3 X2 H2 gx
    dsimp only
    go_wp2
    go_ret
    exact ⟨_, ⟨_, rfl⟩, rfl, X3.out, H3.out.up (by omega) hm⟩
  have f0 : (q1 == 0) = false := by simp [e0]
  have f1 : (q1 == 1) = false := by simp [e1]
  clear e0 e1
  go_wp2_with fail
  refine (pick_any 2600000 _ s A n c L (m + 2) H1.out (by omega) (by omega)).mono ?_
  rintro e w2 ⟨v2, ⟨q2, hq2, hp2, rfl⟩, rfl, g2, h2⟩
  have X2 := Lib.hid (Gx.trans X1.out g2)
  have H2 := Lib.hid h2
  have z2 := World.grownBy.size X2.out
  clear g2 h2 X1 H1
  dsimp only
  go_wp2
  go_ret
  exact ⟨_, ⟨_, rfl⟩, rfl, X2.out, H2.out.up (by omega) hm⟩
set_option maxHeartbeats 2000000 in
theorem DrawCodeAt_any (A : Option Addr) (n c : Nat) (L : List Int) (w : World) (h : Code w A n L) (hA : ∀ a, A = some a → L ≠ [] → a.block < w.heap.size) :
    Calls Tryd.prog 17 #[.slice A n c] w fun e w' => ∃ x y : Int, e = .returned (.tuple #[.int .i64 x, .int .i64 y]) ∧ G w w' := by
  have K := Lib.hid (l00From_any A n c L w h hA)
  clear h hA
  go_enter Tryd.func17, Tryd.ntmps17
  go_wp2_with fail
  refine K.out.mono ?_
  rintro e w1 ⟨rfl, g1, hs1, h1⟩
  have G1 := Lib.hid g1
  have H1 := Lib.hid h1
  obtain ⟨s, HS⟩ : ∃ s, Hid (w.heap.size = s) := ⟨_, rfl⟩
  have hsw : w.heap.size ≤ s := by rw [HS.out]; exact Nat.le_refl _
  rw [HS.out] at H1 hs1
  rw [HS.out]
  clear g1 h1 K
  dsimp only
  go_wp2_with fail
  refine (l16DrawFrame_any _ s A n c L 0 H1.out (by omega)).mono ?_
  rintro e w2 ⟨v2, ⟨x, rfl⟩, rfl, g2, h2⟩
  have X2 := Lib.hid g2
  have H2 := Lib.hid h2
  clear g2 h2
  dsimp only
  go_wp2_with fail
  refine (l16DrawRate_any _ s A n c L (0 + 10) H2.out (by omega)).mono ?_
  rintro e w3 ⟨v3, ⟨y, rfl⟩, rfl, g3, h3⟩
  have X3 := Lib.hid (Gx.trans X2.out g3)
  clear g3 h3 X2 H2
  dsimp only
  go_wp2
  go_ret2
  exact ⟨x, y, rfl, Gx.G G1.out X3.out (by intro i hi; cases hi; exact hsw)⟩
set_option maxHeartbeats 2000000 in
theorem DrawFrameAt_any (A : Option Addr) (n c : Nat) (L : List Int) (w : World) (h : Code w A n L) (hA : ∀ a, A = some a → L ≠ [] → a.block < w.heap.size) :
    Calls Tryd.prog 23 #[.slice A n c] w fun e w' => ∃ x y : Int, e = .returned (.tuple #[.int .i64 x, .int .i64 y]) ∧ G w w' := by
  have K := Lib.hid (l00From_any A n c L w h hA)
  clear h hA
  go_enter Tryd.func23, Tryd.ntmps23
  go_wp2_with fail
  refine K.out.mono ?_
  rintro e w1 ⟨rfl, g1, hs1, h1⟩
  have G1 := Lib.hid g1
  have H1 := Lib.hid h1
  obtain ⟨s, HS⟩ : ∃ s, Hid (w.heap.size = s) := ⟨_, rfl⟩
  have hsw : w.heap.size ≤ s := by rw [HS.out]; exact Nat.le_refl _
  rw [HS.out] at H1 hs1
  rw [HS.out]
  clear g1 h1 K
  dsimp only
  go_wp2_with fail
  refine (l16DrawMilli_any _ s A n c L 0 H1.out (by omega)).mono ?_
  rintro e w2 ⟨v2, ⟨x, rfl⟩, rfl, g2, h2⟩
  have X2 := Lib.hid g2
  have H2 := Lib.hid h2
  clear g2 h2
  dsimp only
  go_wp2_with fail
  refine (l16DrawRate_any _ s A n c L (0 + 10) H2.out (by omega)).mono ?_
  rintro e w3 ⟨v3, ⟨y, rfl⟩, rfl, g3, h3⟩
  have X3 := Lib.hid (Gx.trans X2.out g3)
  clear g3 h3 X2 H2
  dsimp only
  go_wp2
  go_ret2
  exact ⟨x, y, rfl, Gx.G G1.out X3.out (by intro i hi; cases hi; exact hsw)⟩
end Go.Proofs.YtcoaldhmofdfgaaDoor
