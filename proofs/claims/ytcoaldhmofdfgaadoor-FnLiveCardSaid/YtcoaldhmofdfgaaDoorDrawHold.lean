/-
  Walks: holds drawn from bytes. Only what the draws leave alone, and that they are lists of holds.
-/
import Derived.Test.YtcoaldhmofdfgaaDoorSrc
import Derived.Test.YtcoaldhmofdfgaaDoorAddHold
namespace Go.Proofs.YtcoaldhmofdfgaaDoor
open Go.RowKit

theorem own_lst {w : World} {B T sz n : Nat} {v : Value} {xs : List Value} (h : w.ownsRow B T sz v n xs) : ∃ A c, v = .slice A n c := by
  rcases h.2 with ⟨rfl, rfl⟩ | ⟨g, cap, cur, rfl, _⟩
  · exact ⟨_, _, rfl⟩
  · exact ⟨_, _, rfl⟩
set_option maxHeartbeats 1000000 in
theorem l18Real_weak (A : Option Addr) (n c : Nat) (L : List SHold) (t : Int) (w : World) (hr : Rd w A 2 cHold L) (hn : L.length = n) (hb : n ≤ 4194304) :
    Calls Tryd.prog 79 #[.slice A n c, .int .i64 t] w fun e w' => ∃ v : Int, e = .returned (.int .i64 v) ∧ G w w' := by
  have Hn := Lib.hid hn
  have HR := Lib.hid hr
  clear hr hn
  go_enter Tryd.func79, Tryd.ntmps79
  go_wp2
  go_loopw [5, 6] (fun v i wr => ∃ (k : Nat) (y : Int), k ≤ n ∧ i = .int .i64 k ∧ v = .int .i64 y ∧ Hid (G w wr)) (fun _ i _ => n - (intOf i).toNat)
  case atStart => exact ⟨0, t, Nat.zero_le _, rfl, rfl, Lib.hid (G.refl _)⟩
  case round =>
    obtain ⟨k, y, hk, rfl, rfl, G0⟩ := hrel
    by_cases hlt : k < n
    · obtain ⟨b, o, x, rfl, hx, hc0, hc1⟩ := (HR.out.G G0.out).Hold (k := k) (by rw [Hn.out]; exact hlt)
      clear hx
      by_cases h : x.At < t
      · go_wp2
        go_roundw
        case rel => exact ⟨k + 1, _, by omega, by go_num, rfl, G0⟩
        case measure => simp [intOf]; omega
      · go_wp2
        go_roundw
        case rel => exact ⟨k + 1, _, by omega, by go_num, rfl, G0⟩
        case measure => simp [intOf]; omega
    · go_wp2
      go_ret
      exact ⟨_, rfl, G0.out⟩

set_option maxHeartbeats 2000000 in
theorem l18DrawOk_any (w : World) (s : Nat) (A : Option Addr) (n c : Nat) (L : List Int) (m : Nat) (h : Src w s A n c L m) (hm : m + 40 ≤ 1000000) :
    Calls Tryd.prog 78 #[.pointer (some ⟨s, 0, none⟩)] w (DrawnL w s A n c L (m + 40) 54 2 cHold 5) := by
  obtain ⟨i0, hi, hz0, hz1, hz2⟩ := info_parts infoHold
  have HI := Lib.hid (And.intro hi (And.intro hz0 (And.intro hz1 hz2)))
  clear hi hz0 hz1 hz2
  have hsl : s < w.heap.size := by obtain ⟨x, y, _, _, ho⟩ := h.own; exact (ho.lt s rfl).2
  have H0 := Lib.hid (h.g ((G.refl w).alloc (.cells #[] 54)))
  have OE := Lib.hid (World.ownsRow_lit (e := 54) (base := w.heap.size) (size := 2) w #[] 0 (Nat.le_refl _) (by unfold maxLen; omega) rfl)
  clear h
  go_enter Tryd.func78, Tryd.ntmps78
  go_wp2_with fail
  refine (pick_any 2000 _ s A n c L m H0.out (by omega) (by omega)).mono ?_
  rintro e w1 ⟨v, ⟨x, hx0, hx1, rfl⟩, rfl, g1, h1⟩
  have X1 := Lib.hid (Gx.trans (Gx.of_G ((G.refl w).alloc (.cells #[] 54)) (some s)) g1)
  have O1 := Lib.hid (own_Gx OE.out g1 (.inr (by simp [Value.ownBlock]; omega)))
  have H1 := Lib.hid h1
  clear g1 h1 OE H0
  dsimp only
  go_wp2_with fail
  refine (pick_any 5 _ s A n c L (m + 2) H1.out (by omega) (by omega)).mono ?_
  rintro e w2 ⟨v, ⟨q, hq0, hq1, rfl⟩, rfl, g2, h2⟩
  have X2 := Lib.hid (Gx.trans X1.out g2)
  have O2 := Lib.hid (own_Gx O1.out g2 (.inr (by simp [Value.ownBlock]; omega)))
  have H2 := Lib.hid h2
  obtain ⟨k, rfl⟩ : ∃ k : Nat, q = k := ⟨q.toNat, by omega⟩
  have hk5 : k ≤ 4 := by omega
  clear g2 h2 X1 O1 H1 hq0 hq1 hx0 hx1
  dsimp only
  go_wp2
  go_loopw [3, 4, 5] (fun v a i wr => ∃ (j : Nat) (x : Int) (M : List SHold), j ≤ k ∧ i = .int .i64 j ∧ a = .int .i64 x ∧ M.length + j = k ∧ Hid (wr.ownsRow w.heap.size 54 2 v M.length (M.flatMap cHold)) ∧ Hid (Gx (some s) w wr) ∧ Hid (Src wr s A n c L (m + 4 + 4 * M.length))) (fun _ _ i _ => (intOf i).toNat)
  case atStart => exact ⟨k, x, [], Nat.le_refl _, rfl, rfl, by simp, O2, X2, H2⟩
  case round =>
    obtain ⟨j, x, M, hj, rfl, rfl, hM, HO, X0, HS⟩ := hrel
    have hsz := World.grownBy.size X0.out
    have hne : ∀ {w' : World} {v : Value} {l : Nat} {xs : List Value}, w'.ownsRow w.heap.size 54 2 v l xs → v.ownBlock = none ∨ v.ownBlock ≠ some s := fun ho => by
      rcases hq : Value.ownBlock _ with _ | y
      · exact .inl rfl
      · right; intro e; have := (ho.lt y hq).1; cases e; omega
    by_cases hj0 : 0 < j
    · go_wp2_with fail
      refine (pick_any 3000 _ s A n c L _ HS.out (by omega) (by omega)).mono ?_
      rintro e w3 ⟨v, ⟨y, hy0, hy1, rfl⟩, rfl, g3, h3⟩
      have X3 := Lib.hid (Gx.trans X0.out g3)
      have O3 := Lib.hid (own_Gx HO.out g3 (hne HO.out))
      have H3 := Lib.hid h3
      have hsz3 := World.grownBy.size X3.out
      clear g3 h3
      dsimp only
      go_wp2_with (at_builtin; refine wpList_append_own _ rfl (.tmp 15) (.tmp 21) 25 rfl w.heap.size 54 i0 (.agg #[.int .i64 0, .int .i64 0]) 2 16 Tryd.underlying25 HI.out.1 HI.out.2.1 HI.out.2.2.1 HI.out.2.2.2 rfl (by decide) _ M.length _ rfl (O3.out.alloc _) ⟨w3.heap.size, 0, none⟩ 1 1 (cHold ⟨x, 1 + y⟩) rfl rfl (block_news _ (cHold ⟨x, 1 + y⟩) _) (cHold_one _) ?c1 ?c2 ?c3 ?_)
      case c1 => unfold maxLen; omega
      case c2 => omega
      case c3 => simp; omega
      intro v' w4 hown hgrow _
      have O4 := Lib.hid (show w4.ownsRow w.heap.size 54 2 v' (M ++ [(⟨x, 1 + y⟩ : SHold)]).length ((M ++ [(⟨x, 1 + y⟩ : SHold)]).flatMap cHold) by rw [List.length_append, List.flatMap_append]; simpa using hown)
      have X4 := Lib.hid (Gx.grown (Gx.trans X3.out (Gx.of_G ((G.refl w3).alloc (.cells #[.int .i64 x, .int .i64 (1 + y)] 54)) _)) hgrow (own_block_of O3.out))
      have H4 := Lib.hid ((H3.out.g ((G.refl w3).alloc (.cells #[.int .i64 x, .int .i64 (1 + y)] 54))).grown hgrow (fun k hk => by have := own_block_of O3.out k hk; omega))
      clear hown hgrow
      go_wp2_with fail
      refine (pick_any 4000 _ s A n c L _ H4.out (by omega) (by omega)).mono ?_
      rintro e w5 ⟨v, ⟨z, hz0, hz1, rfl⟩, rfl, g5, h5⟩
      have X5 := Lib.hid (Gx.trans X4.out g5)
      have O5 := Lib.hid (own_Gx O4.out g5 (hne O4.out))
      have H5 := Lib.hid (h5.up (k := m + 4 + 4 * (M ++ [(⟨x, 1 + y⟩ : SHold)]).length) (by simp; omega) (by simp; omega))
      clear g5 h5
      dsimp only
      go_wp2
      go_roundw
      case rel => exact ⟨j - 1, _, M ++ [⟨x, 1 + y⟩], by omega, by go_num, rfl, by simp; omega, O5, X5, H5⟩
      case measure => simp [intOf]; omega
    · go_wp2
      go_ret
      exact ⟨_, M, rfl, by omega, X0.out, HS.out.up (by omega) hm, HO.out⟩

set_option maxRecDepth 20000 in
set_option maxHeartbeats 4000000 in
theorem l18Draw_any (w : World) (s : Nat) (A : Option Addr) (n c : Nat) (L : List Int) (m : Nat) (h : Src w s A n c L m) (hm : m + 50 ≤ 1000000) :
    Calls Tryd.prog 56 #[.pointer (some ⟨s, 0, none⟩)] w (DrawnL w s A n c L (m + 50) 54 2 cHold 20) := by
  obtain ⟨i0, hi, hz0, hz1, hz2⟩ := info_parts infoHold
  have HI := Lib.hid (And.intro hi (And.intro hz0 (And.intro hz1 hz2)))
  clear hi hz0 hz1 hz2
  have hsl := h.lt
  have K := Lib.hid (l18DrawOk_any w s A n c L m h (by omega))
  clear h
  go_enter Tryd.func56, Tryd.ntmps56
  go_wp2_with fail
  refine K.out.mono ?_
  rintro e w1 ⟨v, M, rfl, hM, g1, h1, o1⟩
  have X1 := Lib.hid g1
  have H1 := Lib.hid h1
  have O1 := Lib.hid o1
  clear g1 h1 o1
  dsimp only
  go_wp2_with fail
  refine (pick_any 20 _ s A n c L (m + 40) H1.out (by omega) (by omega)).mono ?_
  rintro e w2 ⟨v2, ⟨q, hq0, hq1, rfl⟩, rfl, g2, h2⟩
  have X2 := Lib.hid (Gx.trans X1.out g2)
  have H2 := Lib.hid h2
  have O2 := Lib.hid (own_src O1.out hsl g2)
  have hsz2 := World.grownBy.size X2.out
  clear g2 h2 X1 H1 O1 K
  dsimp only
  by_cases c0 : q = 0
  · subst c0
    go_wp2_with fail
    have gx := (G.refl w2).alloc (.cells #[.int .i64 (-1), .int .i64 0, .int .i64 7200000, .int .i64 7200001] 2)
    refine (among_any (some ⟨w2.heap.size, 0, none⟩) 4 4 [-1, 0, 7200000, 7200001] _ s A n c L (m + 42) (H2.out.g gx) (by omega) (rd_lit w2 [-1, 0, 7200000, 7200001] _) rfl (by omega) (by omega) (fun a ha => by cases ha; simp only; omega)).mono ?_
    rintro e w3 ⟨v3, ⟨x, hx, rfl⟩, rfl, g3, h3⟩
    have X3 := Lib.hid (Gx.trans X2.out (Gx.trans (Gx.of_G gx (some s)) g3))
    have O3 := Lib.hid (own_src (own_G O2.out gx) hsl g3)
    have H3 := Lib.hid h3
    have hsz3 := World.grownBy.size X3.out
    have HXM := Lib.hid hx
    clear g3 h3 gx hx
    dsimp only
    go_wp2_with (at_builtin; refine wpList_append_own _ rfl (.tmp 12) (.tmp 17) 25 rfl w.heap.size 54 i0 (.agg #[.int .i64 0, .int .i64 0]) 2 16 Tryd.underlying25 HI.out.1 HI.out.2.1 HI.out.2.2.1 HI.out.2.2.2 rfl (by decide) _ M.length _ rfl (O3.out.alloc _) ⟨w3.heap.size, 0, none⟩ 1 1 (cHold ⟨x, 5⟩) rfl rfl (block_news _ (cHold ⟨x, 5⟩) _) (cHold_one _) ?c1 ?c2 ?c3 ?_)
    case c1 => unfold maxLen; omega
    case c2 => omega
    case c3 => simp; omega
    intro v' w4 hown hgrow _
    have O4 := Lib.hid (show w4.ownsRow w.heap.size 54 2 v' (M ++ [(⟨x, 5⟩ : SHold)]).length ((M ++ [(⟨x, 5⟩ : SHold)]).flatMap cHold) by rw [List.length_append, List.flatMap_append]; simpa using hown)
    have X4 := Lib.hid (Gx.grown (Gx.trans X3.out (Gx.of_G ((G.refl w3).alloc (.cells #[.int .i64 x, .int .i64 5] 54)) _)) hgrow (own_block_of O3.out))
    have H4 := Lib.hid ((H3.out.g ((G.refl w3).alloc (.cells #[.int .i64 x, .int .i64 5] 54))).grown hgrow (fun k hk => by have := own_block_of O3.out k hk; omega))
    clear hown hgrow
    go_wp2
    go_ret
    exact ⟨v', M ++ [(⟨x, 5⟩ : SHold)], rfl, by simp; omega, X4.out, H4.out.up (by omega) hm, O4.out⟩
  by_cases c1 : q = 1
  · subst c1
    go_wp2_with fail
    have gx := (G.refl w2).alloc (.cells #[.int .i64 0, .int .i64 1800000, .int .i64 1800001] 2)
    refine (among_any (some ⟨w2.heap.size, 0, none⟩) 3 3 [0, 1800000, 1800001] _ s A n c L (m + 42) (H2.out.g gx) (by omega) (rd_lit w2 [0, 1800000, 1800001] _) rfl (by omega) (by omega) (fun a ha => by cases ha; simp only; omega)).mono ?_
    rintro e w3 ⟨v3, ⟨x, hx, rfl⟩, rfl, g3, h3⟩
    have X3 := Lib.hid (Gx.trans X2.out (Gx.trans (Gx.of_G gx (some s)) g3))
    have O3 := Lib.hid (own_src (own_G O2.out gx) hsl g3)
    have H3 := Lib.hid h3
    have hsz3 := World.grownBy.size X3.out
    have HXM := Lib.hid hx
    clear g3 h3 gx hx
    dsimp only
    go_wp2_with (at_builtin; refine wpList_append_own _ rfl (.tmp 21) (.tmp 26) 25 rfl w.heap.size 54 i0 (.agg #[.int .i64 0, .int .i64 0]) 2 16 Tryd.underlying25 HI.out.1 HI.out.2.1 HI.out.2.2.1 HI.out.2.2.2 rfl (by decide) _ M.length _ rfl (O3.out.alloc _) ⟨w3.heap.size, 0, none⟩ 1 1 (cHold ⟨900000, x⟩) rfl rfl (block_news _ (cHold ⟨900000, x⟩) _) (cHold_one _) ?c1 ?c2 ?c3 ?_)
    case c1 => unfold maxLen; omega
    case c2 => omega
    case c3 => simp; omega
    intro v' w4 hown hgrow _
    have O4 := Lib.hid (show w4.ownsRow w.heap.size 54 2 v' (M ++ [(⟨900000, x⟩ : SHold)]).length ((M ++ [(⟨900000, x⟩ : SHold)]).flatMap cHold) by rw [List.length_append, List.flatMap_append]; simpa using hown)
    have X4 := Lib.hid (Gx.grown (Gx.trans X3.out (Gx.of_G ((G.refl w3).alloc (.cells #[.int .i64 900000, .int .i64 x] 54)) _)) hgrow (own_block_of O3.out))
    have H4 := Lib.hid ((H3.out.g ((G.refl w3).alloc (.cells #[.int .i64 900000, .int .i64 x] 54))).grown hgrow (fun k hk => by have := own_block_of O3.out k hk; omega))
    clear hown hgrow
    go_wp2
    go_ret
    exact ⟨v', M ++ [(⟨900000, x⟩ : SHold)], rfl, by simp; omega, X4.out, H4.out.up (by omega) hm, O4.out⟩
  by_cases c2 : q = 2
  · subst c2
    go_wp2_with fail
    have gx := (G.refl w2).alloc (.cells #[.int .i64 16, .int .i64 17] 2)
    refine (among_any (some ⟨w2.heap.size, 0, none⟩) 2 2 [16, 17] _ s A n c L (m + 42) (H2.out.g gx) (by omega) (rd_lit w2 [16, 17] _) rfl (by omega) (by omega) (fun a ha => by cases ha; simp only; omega)).mono ?_
    rintro e w3 ⟨v3, ⟨x, hx, rfl⟩, rfl, g3, h3⟩
    have X3 := Lib.hid (Gx.trans X2.out (Gx.trans (Gx.of_G gx (some s)) g3))
    have O3 := Lib.hid (own_src (own_G O2.out gx) hsl g3)
    have H3 := Lib.hid h3
    have hsz3 := World.grownBy.size X3.out
    have HXM := Lib.hid hx
    clear g3 h3 gx hx
    dsimp only
    have hx17 : x = 16 ∨ x = 17 := by simpa using HXM.out
    have OE := Lib.hid (World.ownsRow_lit (e := 54) (base := w.heap.size) (size := 2) w3 #[] 0 hsz3 (by unfold maxLen; omega) rfl)
    have X3b := Lib.hid (Gx.trans X3.out (Gx.of_G ((G.refl w3).alloc (.cells #[] 54)) _))
    have H3b := Lib.hid (H3.out.g ((G.refl w3).alloc (.cells #[] 54)))
    obtain ⟨y, rfl⟩ : ∃ y : Nat, x = y := ⟨x.toNat, by omega⟩
    have hy : y ≤ 17 := by omega
    clear hx17 O2 O3 HXM
    go_wp2
    go_loopw [3, 5] (fun v i wr => ∃ (j : Nat) (M : List SHold), j ≤ y ∧ i = .int .i64 j ∧ M.length = j ∧ Hid (wr.ownsRow w.heap.size 54 2 v M.length (M.flatMap cHold)) ∧ Hid (Gx (some s) w wr) ∧ Hid (Src wr s A n c L (m + 44))) (fun _ i _ => y - (intOf i).toNat)
    case atStart => exact ⟨0, [], Nat.zero_le _, rfl, rfl, OE, X3b, H3b⟩
    case round =>
      clear OE X3b H3b X3 H3
      obtain ⟨j, M, hj, rfl, hMj, HO, X0, HS⟩ := hrel
      have hsz := World.grownBy.size X0.out
      by_cases hlt : j < y
      · go_wp2_with (at_builtin; refine wpList_append_own _ rfl (.tmp 39) (.tmp 43) 25 rfl w.heap.size 54 i0 (.agg #[.int .i64 0, .int .i64 0]) 2 16 Tryd.underlying25 HI.out.1 HI.out.2.1 HI.out.2.2.1 HI.out.2.2.2 rfl (by decide) _ M.length _ rfl (HO.out.alloc _) ⟨wr.heap.size, 0, none⟩ 1 1 (cHold ⟨100 * j, 10⟩) rfl rfl (block_news _ (cHold ⟨100 * j, 10⟩) _) (cHold_one _) ?c1 ?c2 ?c3 ?_)
        case c1 => unfold maxLen; omega
        case c2 => omega
        case c3 => simp; omega
        intro v' w4 hown hgrow _
        have O4 := Lib.hid (show w4.ownsRow w.heap.size 54 2 v' (M ++ [(⟨100 * j, 10⟩ : SHold)]).length ((M ++ [(⟨100 * j, 10⟩ : SHold)]).flatMap cHold) by rw [List.length_append, List.flatMap_append]; simpa [hMj] using hown)
        have X4 := Lib.hid (Gx.grown (Gx.trans X0.out (Gx.of_G ((G.refl wr).alloc (.cells #[.int .i64 (100 * j), .int .i64 10] 54)) _)) hgrow (own_block_of HO.out))
        have H4 := Lib.hid ((HS.out.g ((G.refl wr).alloc (.cells #[.int .i64 (100 * j), .int .i64 10] 54))).grown hgrow (fun k hk => by have := own_block_of HO.out k hk; omega))
        clear hown hgrow
        go_wp2
        go_roundw
        case rel => exact ⟨j + 1, M ++ [⟨100 * j, 10⟩], by omega, by go_num, by simp; omega, O4, X4, H4⟩
        case measure => simp [intOf]; omega
      · go_wp2
        go_ret
        exact ⟨_, M, rfl, by omega, X0.out, HS.out.up (by omega) hm, HO.out⟩
  have d0 : ((q : Int) == 0) = false := by simp [c0]
  have d1 : ((q : Int) == 1) = false := by simp [c1]
  have d2 : ((q : Int) == 2) = false := by simp [c2]
  clear c0 c1 c2
  go_wp2
  go_ret
  exact ⟨_, M, rfl, by omega, X2.out, H2.out.up (by omega) hm, O2.out⟩

set_option maxRecDepth 20000 in
set_option maxHeartbeats 4000000 in
theorem l18DrawReal_any (B : Option Addr) (nb cb : Nat) (M : List SHold) (w : World) (s : Nat) (A : Option Addr) (n c : Nat) (L : List Int) (m : Nat) (h : Src w s A n c L m) (hm : m + 10 ≤ 1000000) (hr : Rd w B 2 cHold M) (hn : M.length = nb) (hb : nb ≤ 1000) (hne : ∀ a, B = some a → a.block ≠ s) :
    Calls Tryd.prog 57 #[.pointer (some ⟨s, 0, none⟩), .slice B nb cb] w (Drawn w s A n c L (m + 10) fun v => ∃ x : Int, v = .int .i64 x) := by
  have hsl := h.lt
  have K := Lib.hid (one_any 9 w s A n c L m h (by omega) (by omega))
  have HR := Lib.hid hr
  have Hn := Lib.hid hn
  have HNE := Lib.hid hne
  clear h hr hn hne
  go_enter Tryd.func57, Tryd.ntmps57
  go_wp2_with fail
  refine K.out.mono ?_
  rintro e w1 ⟨v, ⟨b1, rfl⟩, rfl, g1, h1⟩
  have X1 := Lib.hid g1
  have H1 := Lib.hid h1
  have hsz1 := World.grownBy.size X1.out
  clear g1 h1 K
  dsimp only
  cases b1
  case true =>
    go_wp2_with fail
    have gx := (G.refl w1).alloc (.cells #[.int .i64 (-1), .int .i64 0, .int .i64 7200000, .int .i64 40000000, .int .i64 40000001] 2)
    refine (among_any (some ⟨w1.heap.size, 0, none⟩) 5 5 [-1, 0, 7200000, 40000000, 40000001] _ s A n c L (m + 2) (H1.out.g gx) (by omega) (rd_lit w1 [-1, 0, 7200000, 40000000, 40000001] _) rfl (by omega) (by omega) (fun a ha => by cases ha; simp only; omega)).mono ?_
    rintro e w3 ⟨v3, ⟨x, hx, rfl⟩, rfl, g3, h3⟩
    have X3 := Lib.hid (Gx.trans X1.out (Gx.trans (Gx.of_G gx (some s)) g3))
    have H3 := Lib.hid h3
    clear g3 h3 gx hx
    dsimp only
    go_wp2
    go_ret
    exact ⟨_, ⟨x, rfl⟩, rfl, X3.out, H3.out.up (by omega) hm⟩
  by_cases h0 : nb = 0
  · subst h0
    go_wp2_with fail
    refine (pick_any 25000 _ s A n c L (m + 2) H1.out (by omega) (by omega)).mono ?_
    rintro e w2 ⟨v2, ⟨q, hq0, hq1, rfl⟩, rfl, g2, h2⟩
    have X2 := Lib.hid (Gx.trans X1.out g2)
    have H2 := Lib.hid h2
    clear g2 h2
    dsimp only
    go_wp2
    go_ret
    exact ⟨_, ⟨q, rfl⟩, rfl, X2.out, H2.out.up (by omega) hm⟩
  have h0' : 0 < nb := by omega
  clear h0
  go_wp2_with fail
  refine (one_any 2 _ s A n c L (m + 2) H1.out (by omega) (by omega)).mono ?_
  rintro e w2 ⟨v, ⟨b2, rfl⟩, rfl, g2, h2⟩
  have X2 := Lib.hid (Gx.trans X1.out g2)
  have H2 := Lib.hid h2
  clear g2 h2 X1 H1
  dsimp only
  cases b2
  case false =>
    go_wp2_with fail
    refine (pick_any 25000 _ s A n c L (m + 4) H2.out (by omega) (by omega)).mono ?_
    rintro e w3 ⟨v2, ⟨q, hq0, hq1, rfl⟩, rfl, g3, h3⟩
    have X3 := Lib.hid (Gx.trans X2.out g3)
    have H3 := Lib.hid h3
    clear g3 h3
    dsimp only
    go_wp2
    go_ret
    exact ⟨_, ⟨q, rfl⟩, rfl, X3.out, H3.out.up (by omega) hm⟩
  go_wp2_with fail
  refine (pick_any nb _ s A n c L (m + 4) H2.out (by omega) (by omega)).mono ?_
  rintro e w3 ⟨v2, ⟨q, hq0, hq1, rfl⟩, rfl, g3, h3⟩
  have X3 := Lib.hid (Gx.trans X2.out g3)
  have H3 := Lib.hid h3
  obtain ⟨k, rfl⟩ : ∃ k : Nat, q = k := ⟨q.toNat, by omega⟩
  have hk : k < nb := by omega
  have RD := Lib.hid (HR.out.Gx (g := some s) X3.out (fun a ha e => HNE.out a ha (by simpa using e)))
  obtain ⟨b, o, x, rfl, hx, hc0, hc1⟩ := RD.out.Hold (k := k) (by rw [Hn.out]; exact hk)
  have hbs := HNE.out _ rfl
  have HC0 := Lib.hid hc0
  have HC1 := Lib.hid hc1
  have hk2 : (k : Int) < (nb : Int) := by omega
  have hk0 : 0 ≤ (k : Int) := by omega
  clear g3 h3 X2 H2 hq0 hq1 hx
  dsimp only
  go_wp2
  obtain ⟨p, hp⟩ : ∃ p, IntKind.i64.wrap (x.Length - 1) = p := ⟨_, rfl⟩
  obtain ⟨r, hr⟩ : ∃ r, IntKind.i64.wrap (x.Length + 1) = r := ⟨_, rfl⟩
  go_region_held3 (fun w' => w'.cell? ⟨b, o + k * 2, none⟩ = some (.int .i64 x.At) ∧ w'.cell? ⟨b, o + k * 2 + 1, none⟩ = some (.int .i64 x.Length)) (first | go_keep | (with_reducible exact ⟨G4.out.cell HC0.out, G4.out.cell HC1.out⟩) | (with_reducible exact ⟨Gx.cell X5.out HC0.out NB.out, Gx.cell X5.out HC1.out NB.out⟩)) (first | (go_at_call 79; (with_reducible refine (l18Real_weak _ nb cb M _ w3.drew ?hq Hn.out ?hb).mono ?_); (case hq => exact RD.out.G (G.refl _).drew); (case hb => omega); rintro e w4 ⟨y, rfl, g4⟩; have G4 := Lib.hid ((G.refl w3).drew.trans g4); clear g4; have NB := Lib.hid (show some b ≠ some s by intro e; cases e; exact hbs rfl)) | (go_at_call 79; (with_reducible refine (l18Real_weak _ nb cb M _ _ ?hq Hn.out ?hb).mono ?_); (case hq => exact RD.out.G ((G.refl w3).alloc (.cells #[.int .i64 0, .int .i64 1, .int .i64 (-1), .int .i64 p, .int .i64 x.Length, .int .i64 r] 2)).drew); (case hb => omega); rintro e w4 ⟨y, rfl, g4⟩; have G4 := Lib.hid (((G.refl w3).alloc (.cells #[.int .i64 0, .int .i64 1, .int .i64 (-1), .int .i64 p, .int .i64 x.Length, .int .i64 r] 2)).drew.trans g4); have GL := Lib.hid ((G.refl (w3.alloc (.cells #[.int .i64 0, .int .i64 1, .int .i64 (-1), .int .i64 p, .int .i64 x.Length, .int .i64 r] 2))).drew.trans g4); clear g4; have NB := Lib.hid (show some b ≠ some s by intro e; cases e; exact hbs rfl)) | (go_at_call 73; (with_reducible refine (among_any (some ⟨w3.heap.size, 0, none⟩) 6 6 [0, 1, -1, p, x.Length, r] _ s A n c L (m + 6) ?q1 ?q2 ?q3 ?q4 ?q5 ?q6 ?q7).mono ?_); (case q1 => exact H3.out.g G4.out); (case q2 => omega); (case q3 => exact (rd_lit w3 [0, 1, -1, p, x.Length, r] _).G GL.out); (case q4 => rfl); (case q5 => omega); (case q6 => omega); (case q7 => (intro a ha; cases ha; have := G4.out.size; have := H3.out.lt; have : w3.heap.size ≤ w4.heap.size := G4.out.size; simp only; omega)); rintro e w5 ⟨v5, ⟨z, hz, rfl⟩, rfl, g5, h5⟩; have X5 := Lib.hid (Gx.trans (Gx.of_G G4.out (some s)) g5); have H5 := Lib.hid h5; clear g5 h5 hz) | (go_at_call 73; have gx := (G.refl w4).alloc (.cells #[.int .i64 0, .int .i64 1, .int .i64 (-1), .int .i64 p, .int .i64 x.Length, .int .i64 r] 2); (with_reducible refine (among_any (some ⟨w4.heap.size, 0, none⟩) 6 6 [0, 1, -1, p, x.Length, r] _ s A n c L (m + 6) ?q1 ?q2 ?q3 ?q4 ?q5 ?q6 ?q7).mono ?_); (case q1 => exact H3.out.g (G4.out.trans gx)); (case q2 => omega); (case q3 => exact rd_lit w4 [0, 1, -1, p, x.Length, r] _); (case q4 => rfl); (case q5 => omega); (case q6 => omega); (case q7 => (intro a ha; cases ha; have := G4.out.size; have := H3.out.lt; have : w3.heap.size ≤ w4.heap.size := G4.out.size; simp only; omega)); rintro e w5 ⟨v5, ⟨z, hz, rfl⟩, rfl, g5, h5⟩; have X5 := Lib.hid (Gx.trans (Gx.of_G (G4.out.trans gx) (some s)) g5); have H5 := Lib.hid h5; clear g5 h5 hz))
  all_goals
    clear hp hr
    go_wp2
    go_ret
    exact ⟨_, ⟨_, rfl⟩, rfl, Gx.trans X3.out X5.out, H5.out.up (by omega) hm⟩

end Go.Proofs.YtcoaldhmofdfgaaDoor
