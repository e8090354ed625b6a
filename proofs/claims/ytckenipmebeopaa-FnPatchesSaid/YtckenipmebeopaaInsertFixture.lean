/-
  Walks: slices.Insert at Fixture, one element.
-/
import Derived.Test.YtckenipmebeopaaCloneFixture
import Derived.Test.YtckenipmebeopaaIns
namespace Go.Proofs.Ytckenipmebeopaa
open Go.RowKit

set_option maxRecDepth 1000000 in
set_option maxHeartbeats 4000000 in
theorem insertEndFixture_any (base n vb : Nat) (v : Value) (L : List SFixture) (x : SFixture) (i : Nat) (w : World) (ho : w.ownsRow base 34 4 v n (L.flatMap cFixture)) (hn : L.length = n) (hb : n ≤ 4194304) (hbase : base ≤ w.heap.size) (hi : i = n) (hvb : w.heap[vb]? = some (.cells (cFixture x).toArray 34 (0, 0))) :
    Calls Try.prog 36 #[v, .int .i64 n, .slice (some ⟨vb, 0, none⟩) 1 1] w fun e w' => ∃ v', e = .returned v' ∧ w'.ownsRow base 34 4 v' (n + 1) ((L.take i ++ x :: L.drop i).flatMap cFixture) ∧ (∀ w0 : World, w0.heap.size ≤ base → G w0 w → G w0 w') := by
  obtain ⟨i0, hi0, hz0, hz1, hz2⟩ := info_parts infoFixture
  have HI := Lib.hid (And.intro hi0 (And.intro hz0 (And.intro hz1 hz2)))
  clear hi0 hz0 hz1 hz2
  have HN := Lib.hid (show ∀ j u, (cFixture x)[j]? = some u → w.cell? ((⟨vb, 0, none⟩ : Addr).add j) = some u by
    intro j u h
    rw [Addr.add_lit, Nat.zero_add]
    simp only [World.cell?, hvb]
    simpa using h)
  have HE := Lib.hid (show (L.take i ++ x :: L.drop i).flatMap cFixture = L.flatMap cFixture ++ cFixture x by
    rw [List.take_of_length_le (by omega), List.drop_of_length_le (by omega), List.flatMap_append]; simp)
  have HO := Lib.hid ho
  clear hvb
  rcases ho.2 with ⟨hv, h0⟩ | ⟨g, cap, cur, hv, _, _, hnc, hcm, _⟩
  all_goals
    clear ho
    subst hv
  · subst h0
    go_enter Try.func36, Try.ntmps36
    go_wp2_with (at_builtin; refine wpList_append_own _ rfl (.tmp 23) (.tmp 24) 24 rfl base 34 i0 (.agg #[.string ⟨#[]⟩, .int .i64 0, .int .i64 0, .int .i64 0]) 4 40 Try.underlying24 HI.out.1 HI.out.2.1 HI.out.2.2.1 HI.out.2.2.2 rfl (by decide) _ 0 _ rfl HO.out ⟨vb, 0, none⟩ 1 1 (cFixture x) rfl rfl HN.out (cFixture_one x) ?c1 ?c2 hbase ?_)
    case c1 => unfold maxLen; omega
    case c2 => omega
    intro v' w1 hown hgrow _
    have HO2 := Lib.hid hown
    have HG2 := Lib.hid hgrow
    clear hown hgrow
    go_wp2
    go_ret
    exact ⟨_, rfl, by rw [HE.out]; exact HO2.out, fun w0 h0 hg => hg.grown HG2.out (fun k hk => by cases hk)⟩
  · unfold maxLen at hcm
    by_cases hcn : cap = n
    all_goals
      go_enter Try.func36, Try.ntmps36
      go_wp2_with (at_builtin; refine wpList_append_own _ rfl (.tmp 23) (.tmp 24) 24 rfl base 34 i0 (.agg #[.string ⟨#[]⟩, .int .i64 0, .int .i64 0, .int .i64 0]) 4 40 Try.underlying24 HI.out.1 HI.out.2.1 HI.out.2.2.1 HI.out.2.2.2 rfl (by decide) _ n _ rfl HO.out ⟨vb, 0, none⟩ 1 1 (cFixture x) rfl rfl HN.out (cFixture_one x) ?c1 ?c2 hbase ?_)
      case c1 => unfold maxLen; omega
      case c2 => omega
      intro v' w1 hown hgrow _
      have HO2 := Lib.hid hown
      have HG2 := Lib.hid hgrow
      clear hown hgrow
      go_wp2
      go_ret
      exact ⟨_, rfl, by rw [HE.out]; exact HO2.out, fun w0 h0 hg => hg.grown HG2.out (fun k hk => by have := own_block_of HO.out k hk; omega)⟩

set_option maxRecDepth 1000000 in
set_option maxHeartbeats 4000000 in
theorem insertRoomFixture_any (base g n cap vb : Nat) (L : List SFixture) (x : SFixture) (i : Nat) (w : World) (ho : w.ownsRow base 34 4 (.slice (some ⟨g, 0, none⟩) n cap) n (L.flatMap cFixture)) (hn : L.length = n) (hb : n ≤ 4194304) (hi : i < n) (hvb : w.heap[vb]? = some (.cells (cFixture x).toArray 34 (0, 0))) (hne : vb ≠ g) (hroom : n + 1 ≤ cap) :
    Calls Try.prog 36 #[.slice (some ⟨g, 0, none⟩) n cap, .int .i64 i, .slice (some ⟨vb, 0, none⟩) 1 1] w fun e w' => ∃ v', e = .returned v' ∧ w'.ownsRow base 34 4 v' (n + 1) ((L.take i ++ x :: L.drop i).flatMap cFixture) ∧ (∀ w0 : World, w0.heap.size ≤ base → G w0 w → G w0 w') := by
  obtain ⟨i0, hi0, hz0, hz1, hz2⟩ := info_parts infoFixture
  have hcp := own_cap ho
  unfold maxLen at hcp
  have hcap := hcp.1
  have hmax := hcp.2
  have hgb := (ho.lt _ rfl).1
  have hN : ∀ (W : World), (∀ j, W.cell? ⟨vb, j, none⟩ = w.cell? ⟨vb, j, none⟩) → ∀ j u, (cFixture x)[j]? = some u → W.cell? ((⟨vb, 0, none⟩ : Addr).add j) = some u := by
    intro W hW j u h
    rw [Addr.add_lit, Nat.zero_add, hW]
    simp only [World.cell?, hvb]
    simpa using h
  obtain ⟨kB, hsb, hkB⟩ := own_shape ho
  have hov : ∀ lb cb, (callFunc 50 #[.slice (some ⟨vb, 0, none⟩) 1 1, .slice (some ⟨g, (i + 1) * 4, none⟩) lb cb]).run Try.prog w = .ok (.value (.bool false)) w := fun lb cb => by
    rw [run_callFunc_extern Try.func50 (by kernel_rfl) (by kernel_rfl) (by kernel_rfl) (e := Extern.SlicesOverlaps.overlaps #[24, 24] #[4]) (by kernel_rfl),
      Lib.run_overlaps_apart w 24 4 34 Try.underlying24 4 (by intro w; simp [sizeOf, typeInfo, hi0, hz1]) ⟨vb, 0, none⟩ ⟨g, (i + 1) * 4, none⟩ 1 1 lb cb hne 34 34 4 kB (by simp [World.shape?, hvb, cFixture]) hsb (by omega) (by simp [World.frozen?, hvb]) (by simp [World.frozen?, hvb])]
    rfl
  obtain ⟨ys, oY, hys⟩ := own_more ho hroom
  have hyt : ys.take (i * 4) = (L.take i).flatMap cFixture := by rw [← flat_take cFixture_len, ← hys, List.take_take, Nat.min_eq_left (by omega)]
  have hDl : ((L.drop i).flatMap cFixture).length = (n - i) * 4 := by rw [flat_len cFixture_len, List.length_drop, hn]
  obtain ⟨W1, hW1⟩ : ∃ W1, W1 = w.drew.setCells g ((i + 1) * 4) ((L.drop i).flatMap cFixture) := ⟨_, rfl⟩
  have o1 := own_setCells ((L.drop i).flatMap cFixture) ((i + 1) * 4) (own_drew oY) (by rw [hDl]; omega)
  rw [← hW1] at o1
  obtain ⟨W2, hW2⟩ : ∃ W2, W2 = W1.setCells g (i * 4) (cFixture x) := ⟨_, rfl⟩
  have o2 := own_setCells (cFixture x) (i * 4) o1.1 (by rw [cFixture_len]; omega)
  rw [← hW2] at o2
  have hcp1 : ∀ ty dl dc sl sc, Nat.min sl dl = n - i → (Builtin.copy_ #[24, 24] ty #[.slice (some ⟨g, (i + 1) * 4, none⟩) dl dc, .slice (some ⟨g, i * 4, none⟩) sl sc]).run Try.prog w.drew = .ok (goInt ((n - i : Nat) : Int)) W1 := fun ty dl dc sl sc hmin => by
    rw [hW1]
    exact run_copy_sz w.drew _ _ ty 34 i0 g ((i + 1) * 4) dl dc ⟨g, i * 4, none⟩ sl sc (n - i) _ Try.underlying24 hi0 hmin (by rw [hDl, hz1])
      (fun j u hj => by
        rw [Addr.add_lit]
        refine own_cellAt_mid (own_drew ho) ?_
        rw [← flat_drop cFixture_len, List.getElem?_drop] at hj
        exact hj)
      (fun j hj => (own_room (own_drew ho) (by rw [hDl] at hj; omega)).1) (fun j hj => (own_room (own_drew ho) (by rw [hDl] at hj; omega)).2) (flat_one cFixture_one _)
  have hcp2 : ∀ ty dl dc, Nat.min 1 dl = 1 → (Builtin.copy_ #[24, 24] ty #[.slice (some ⟨g, i * 4, none⟩) dl dc, .slice (some ⟨vb, 0, none⟩) 1 1]).run Try.prog W1 = .ok (goInt 1) W2 := fun ty dl dc hmin => by
    rw [hW2]
    exact run_copy_sz W1 _ _ ty 34 i0 g (i * 4) dl dc ⟨vb, 0, none⟩ 1 1 1 _ Try.underlying24 hi0 hmin (by rw [cFixture_len, hz1])
      (hN W1 (fun j => by rw [hW1, World.cell?_setCells_out _ _ _ _ _ (fun h _ => absurd h hne)]; rfl))
      (fun j hj => (own_room o1.1 (by rw [cFixture_len] at hj; omega)).1) (fun j hj => (own_room o1.1 (by rw [cFixture_len] at hj; omega)).2) (cFixture_one x)
  have HE := Lib.hid (ins_shift cFixture_len L x i (by omega) ys (by rw [oY.1, hn]) hyt)
  have O2 := Lib.hid o2.1
  rw [HE.out] at O2
  have GX := Lib.hid (Gx.trans (Gx.trans (g := some g) (Gx.of_G ((G.refl w).drew) _) o1.2) o2.2)
  have HC1 := Lib.hid hcp1
  have HC2 := Lib.hid hcp2
  have hz3 : ((i : Int) == (n : Int)) = false := by simp; omega
  have hw1 : IntKind.i64.wrap ((i : Int) + 1) = (i : Int) + 1 := by rw [IntKind.wrap_i64]; omega
  have hw2 : IntKind.i64.wrap ((n : Int) + 1) = (n : Int) + 1 := by rw [IntKind.wrap_i64]; omega
  have hb1 : (0 : Int) ≤ (i : Int) + 1 := by omega
  have hb0 : (0 : Int) ≤ (n : Int) + 1 := by omega
  have htn : ((i : Int) + 1).toNat = i + 1 := by omega
  have htn2 : ((n : Int) + 1).toNat = n + 1 := by omega
  have hb2 : ¬ (cap = i + 1) := by omega
  have hb3 : (i : Int) ≤ (n : Int) + 1 := by omega
  have hb4 : ¬ (cap = i) := by omega
  have hb5 : (i : Int) + 1 ≤ (n : Int) + 1 := by omega
  have hb6 : (n : Int) + 1 ≤ (cap : Int) := by omega
  have hb7 : (i : Int) ≤ (n : Int) := by omega
  have hb8 : (0 : Int) ≤ (i : Int) := by omega
  clear hcp1 hcp2 o1 o2 HE hW1 hW2 hyt hys oY hDl hN ho hcp hsb hkB hvb hz0 hn
  go_enter Try.func36, Try.ntmps36
  go_wp2_with (simp only [hov])
  clear hov
  have HM := Lib.hid (show Nat.min (n + 1 - i) (n - i) = n - i by simp only [Nat.min_def]; split <;> omega)
  go_region_law (refine step_copy_run1 rfl (.tmp 73) (.tmp 76) 24 24 rfl (.slice (some ⟨g, (i + 1) * 4, none⟩) (n - i) (cap - (i + 1))) (.slice (some ⟨g, i * 4, none⟩) (n + 1 - i) (cap - i)) (by simp [Act.eval, Act.put]) (by simp [Act.eval, Act.put]) (HC1.out _ _ _ _ _ HM.out) ?_)
  go_wp2_with (refine wpList_copy_run1 _ rfl (.tmp 80) (.tmp 81) 24 24 rfl _ _ rfl rfl (HC2.out _ _ _ ?cm) ?_)
  case cm => simp only [Nat.min_def]; split <;> omega
  go_ret
  exact ⟨_, rfl, O2.out, fun w0 h0 hg => Gx.G hg GX.out (fun k hk => by cases hk; omega)⟩

set_option maxRecDepth 1000000 in
set_option maxHeartbeats 4000000 in
theorem insertGrowFixture_any (base g n cap vb : Nat) (L : List SFixture) (x : SFixture) (i : Nat) (w : World) (ho : w.ownsRow base 34 4 (.slice (some ⟨g, 0, none⟩) n cap) n (L.flatMap cFixture)) (hn : L.length = n) (hb : n ≤ 4194304) (hbase : base ≤ w.heap.size) (hi : i < n) (hvb : w.heap[vb]? = some (.cells (cFixture x).toArray 34 (0, 0))) (hroom : cap < n + 1) :
    Calls Try.prog 36 #[.slice (some ⟨g, 0, none⟩) n cap, .int .i64 i, .slice (some ⟨vb, 0, none⟩) 1 1] w fun e w' => ∃ v', e = .returned v' ∧ w'.ownsRow base 34 4 v' (n + 1) ((L.take i ++ x :: L.drop i).flatMap cFixture) ∧ (∀ w0 : World, w0.heap.size ≤ base → G w0 w → G w0 w') := by
  obtain ⟨i0, hi0, hz0, hz1, hz2⟩ := info_parts infoFixture
  have hcp := own_cap ho
  unfold maxLen at hcp
  have hcap := hcp.1
  have hmax := hcp.2
  have hgb := (ho.lt _ rfl).1
  have hN : ∀ (W : World), (∀ j, W.cell? ⟨vb, j, none⟩ = w.cell? ⟨vb, j, none⟩) → ∀ j u, (cFixture x)[j]? = some u → W.cell? ((⟨vb, 0, none⟩ : Addr).add j) = some u := by
    intro W hW j u h
    rw [Addr.add_lit, Nat.zero_add, hW]
    simp only [World.cell?, hvb]
    simpa using h
  have hkk : (n : Int) + 1 - (i : Int) = ((n + 1 - i : Nat) : Int) := by omega
  have hik : i + (n + 1 - i) = n + 1 := by omega
  have hold : (Builtin.firstCells i0.size i (.slice (some ⟨g, 0, none⟩) i cap)).run Try.prog w.drew = .ok ((L.take i).flatMap cFixture).toArray w.drew := by
    rw [hz1]
    exact run_firstCells_some w.drew 4 i ⟨g, 0, none⟩ i cap _ (by rw [flat_len cFixture_len, List.length_take]; congr 1; omega) (fun j u hj => by
      rw [Addr.add_lit, Nat.zero_add]
      refine own_cellAt_mid (own_drew ho) ?_
      rw [← flat_take cFixture_len, List.getElem?_take] at hj
      split at hj
      · exact hj
      · cases hj)
  obtain ⟨Gc, hG⟩ : ∃ Gc, Gc = grownCap w (n + 1) cap 34 := ⟨_, rfl⟩
  have hGn : n + 1 ≤ Gc := by rw [hG]; exact grownCap_ge w _ _ _
  have hG63 : Gc ≤ 9223372036854775807 := by
    have := grownCap_le_maxLen w (n + 1) cap 34 (by unfold maxLen; omega)
    rw [← hG] at this
    unfold maxLen at this
    omega
  obtain ⟨ROW, hROW⟩ : ∃ ROW : Array Value, ROW = ((L.take i).flatMap cFixture).toArray ++ Builtin.zeroCells (.agg #[.string ⟨#[]⟩, .int .i64 0, .int .i64 0, .int .i64 0] : Value).cells (n + 1 - i) ++ Builtin.zeroCells (.agg #[.string ⟨#[]⟩, .int .i64 0, .int .i64 0, .int .i64 0] : Value).cells (Gc - (n + 1)) := ⟨_, rfl⟩
  obtain ⟨N, hNs⟩ : ∃ N, N = w.heap.size := ⟨_, rfl⟩
  obtain ⟨W1, hW1⟩ : ∃ W1, W1 = w.drew.alloc (.cells ROW 34) := ⟨_, rfl⟩
  have hrz : ∀ ty, (Builtin.append_ #[24, 3] ty #[.slice (some ⟨g, 0, none⟩) i cap, .int .i64 ((n : Int) + 1 - (i : Int))]).run Try.prog w = .ok (.slice (some ⟨N, 0, none⟩) (n + 1) Gc) W1 := fun ty => by
    have h := Lib.run_append_grow_zeros w 24 3 ty 34 i0 _ .i64 .i64 Try.underlying24 Try.underlying3 hi0 hz0 (some ⟨g, 0, none⟩) i cap _ hold (n + 1 - i) (by omega) (by omega) (by omega) (by omega) (by rw [hz2]; omega) (by rw [hz2, hik]; exact growslice_fits hroom (by omega))
    rw [hik, ← hG, ← hROW, ← hW1, ← hNs] at h
    rw [hkk]
    exact h
  have hRs : ROW.size = Gc * 4 := by
    rw [hROW]
    simp only [Array.size_append, List.size_toArray, Builtin.zeroCells, Array.size_map, Array.size_range, flat_len cFixture_len, List.length_take]
    simp [Value.cells]
    omega
  have oN : W1.ownsRow base 34 4 (.slice (some ⟨N, 0, none⟩) (n + 1) Gc) (n + 1) (ROW.toList.take ((n + 1) * 4)) := by
    rw [hW1, hNs]
    exact own_new (w := w.drew) hbase hGn (by unfold maxLen; omega) hRs
  have hyt : (ROW.toList.take ((n + 1) * 4)).take (i * 4) = (L.take i).flatMap cFixture := by
    rw [List.take_take, Nat.min_eq_left (by omega), hROW, Array.toList_append, Array.toList_append, List.append_assoc, List.take_append_of_le_length (by rw [flat_len cFixture_len, List.length_take]; omega), List.take_of_length_le (by rw [flat_len cFixture_len, List.length_take]; omega)]
  have hgw : g < N := by rw [hNs]; exact (ho.lt _ rfl).2
  have hvw : vb < N := by
    rw [hNs]
    rcases Nat.lt_or_ge vb w.heap.size with h | h
    · exact h
    · rw [Array.getElem?_eq_none h] at hvb; cases hvb
  have hDl : ((L.drop i).flatMap cFixture).length = (n - i) * 4 := by rw [flat_len cFixture_len, List.length_drop, hn]
  obtain ⟨W2, hW2⟩ : ∃ W2, W2 = W1.setCells N (i * 4) (cFixture x) := ⟨_, rfl⟩
  have o1 := own_setCells (cFixture x) (i * 4) oN (by rw [cFixture_len]; omega)
  rw [← hW2] at o1
  obtain ⟨W3, hW3⟩ : ∃ W3, W3 = W2.drew.setCells N ((i + 1) * 4) ((L.drop i).flatMap cFixture) := ⟨_, rfl⟩
  have o2 := own_setCells ((L.drop i).flatMap cFixture) ((i + 1) * 4) (own_drew o1.1) (by rw [hDl]; omega)
  rw [← hW3] at o2
  have hcA : ∀ ty dl dc, Nat.min 1 dl = 1 → (Builtin.copy_ #[24, 24] ty #[.slice (some ⟨N, i * 4, none⟩) dl dc, .slice (some ⟨vb, 0, none⟩) 1 1]).run Try.prog W1 = .ok (goInt 1) W2 := fun ty dl dc hmin => by
    rw [hW2]
    exact run_copy_sz W1 _ _ ty 34 i0 N (i * 4) dl dc ⟨vb, 0, none⟩ 1 1 1 _ Try.underlying24 hi0 hmin (by rw [cFixture_len, hz1])
      (hN W1 (fun j => by rw [hW1]; exact World.cell?_alloc_past (w := w.drew) _ vb j (by rw [hNs] at hvw; exact hvw)))
      (fun j hj => (own_room oN (by rw [cFixture_len] at hj; omega)).1) (fun j hj => (own_room oN (by rw [cFixture_len] at hj; omega)).2) (cFixture_one x)
  have hcB : ∀ ty dl dc sl sc, Nat.min sl dl = n - i → (Builtin.copy_ #[24, 24] ty #[.slice (some ⟨N, (i + 1) * 4, none⟩) dl dc, .slice (some ⟨g, i * 4, none⟩) sl sc]).run Try.prog W2.drew = .ok (goInt ((n - i : Nat) : Int)) W3 := fun ty dl dc sl sc hmin => by
    rw [hW3]
    exact run_copy_sz W2.drew _ _ ty 34 i0 N ((i + 1) * 4) dl dc ⟨g, i * 4, none⟩ sl sc (n - i) _ Try.underlying24 hi0 hmin (by rw [hDl, hz1])
      (fun j u hj => by
        rw [Addr.add_lit]
        show W2.cell? _ = _
        rw [hW2, World.cell?_setCells_out _ _ _ _ _ (fun h _ => absurd h (by simp only; omega)), hW1, World.cell?_alloc_past (w := w.drew) _ g _ (by rw [hNs] at hgw; exact hgw)]
        refine own_cellAt_mid (own_drew ho) ?_
        rw [← flat_drop cFixture_len, List.getElem?_drop] at hj
        exact hj)
      (fun j hj => (own_room (own_drew o1.1) (by rw [hDl] at hj; omega)).1) (fun j hj => (own_room (own_drew o1.1) (by rw [hDl] at hj; omega)).2) (flat_one cFixture_one _)
  have HE := Lib.hid (ins_grow cFixture_len L x i (by omega) (ROW.toList.take ((n + 1) * 4)) (by rw [oN.1, hn]) hyt)
  have O2 := Lib.hid o2.1
  rw [HE.out] at O2
  have HG3 := Lib.hid (show ∀ w0 : World, w0.heap.size ≤ base → G w0 w → G w0 W3 from fun w0 h0 hg => by
    have a1 : G w0 W1 := by rw [hW1]; exact hg.drew.alloc _
    have a2 : G w0 W2 := Gx.G a1 o1.2 (fun k hk => by cases hk; rw [hNs]; omega)
    exact Gx.G a2.drew o2.2 (fun k hk => by cases hk; rw [hNs]; omega))
  have HRZ := Lib.hid hrz
  have HCA := Lib.hid hcA
  have HCB := Lib.hid hcB
  have hz3 : ((i : Int) == (n : Int)) = false := by simp; omega
  have hw1 : IntKind.i64.wrap ((i : Int) + 1) = (i : Int) + 1 := by rw [IntKind.wrap_i64]; omega
  have hw2 : IntKind.i64.wrap ((n : Int) + 1) = (n : Int) + 1 := by rw [IntKind.wrap_i64]; omega
  have hw3 : IntKind.i64.wrap ((n : Int) + 1 - (i : Int)) = (n : Int) + 1 - (i : Int) := by rw [IntKind.wrap_i64]; omega
  have hb1 : (0 : Int) ≤ (i : Int) + 1 := by omega
  have htn : ((i : Int) + 1).toNat = i + 1 := by omega
  have hb2 : ¬ (Gc = i + 1) := by omega
  have hb3 : (i : Int) ≤ (n : Int) + 1 := by omega
  have hb4 : ¬ (Gc = i) := by omega
  have hb5 : (i : Int) + 1 ≤ (n : Int) + 1 := by omega
  have hb6 : (cap : Int) < (n : Int) + 1 := by omega
  have hb7 : (i : Int) ≤ (n : Int) := by omega
  have hb8 : (0 : Int) ≤ (i : Int) := by omega
  have hb9 : ¬ (cap = i) := by omega
  clear hrz hcA hcB o1 o2 oN HE hW1 hW2 hW3 hyt hDl hN ho hcp hvb hz0 hn hkk hik hold hG hROW hRs hNs hgw hvw
  go_enter Try.func36, Try.ntmps36
  go_wp2_with (first | (at_builtin; refine Lib.wpList_append_run _ rfl _ _ _ _ rfl _ _ rfl rfl _ _ (HRZ.out _) ?_) | (at_builtin; fail) | (refine wpList_copy_run1 _ rfl (.tmp 43) (.tmp 44) 24 24 rfl _ _ rfl rfl (HCA.out _ _ _ ?cm) ?_))
  case cm => simp only [Nat.min_def]; split <;> omega
  have HM := Lib.hid (show Nat.min (n - i) (n - i) = n - i by simp only [Nat.min_def]; split <;> omega)
  go_region_law (refine step_copy_run1 rfl (.tmp 50) (.tmp 53) 24 24 rfl (.slice (some ⟨N, (i + 1) * 4, none⟩) (n - i) (Gc - (i + 1))) (.slice (some ⟨g, i * 4, none⟩) (n - i) (cap - i)) (by simp [Act.eval, Act.put]) (by simp [Act.eval, Act.put]) (HCB.out _ _ _ _ _ HM.out) ?_)
  go_wp2
  go_ret
  exact ⟨_, rfl, O2.out, HG3.out⟩

/-- One element put into a row of the call's own, at any place. -/
theorem insertFixture_any (base n vb : Nat) (v : Value) (L : List SFixture) (x : SFixture) (i : Nat) (w : World) (ho : w.ownsRow base 34 4 v n (L.flatMap cFixture)) (hn : L.length = n) (hb : n ≤ 4194304) (hbase : base ≤ w.heap.size) (hi : i ≤ n) (hvb : w.heap[vb]? = some (.cells (cFixture x).toArray 34 (0, 0))) (hne : ∀ k, v.ownBlock = some k → vb ≠ k) :
    Calls Try.prog 36 #[v, .int .i64 i, .slice (some ⟨vb, 0, none⟩) 1 1] w fun e w' => ∃ v', e = .returned v' ∧ w'.ownsRow base 34 4 v' (n + 1) ((L.take i ++ x :: L.drop i).flatMap cFixture) ∧ (∀ w0 : World, w0.heap.size ≤ base → G w0 w → G w0 w') := by
  by_cases hlt : i = n
  · have h := insertEndFixture_any base n vb v L x i w ho hn hb hbase hlt hvb
    rw [hlt]
    rw [hlt] at h
    exact h
  · rcases ho.2 with ⟨_, h0⟩ | ⟨g, cap, cur, hv, _⟩
    · omega
    · subst hv
      by_cases hr : n + 1 ≤ cap
      · exact insertRoomFixture_any base g n cap vb L x i w ho hn hb (by omega) hvb (hne g rfl) hr
      · exact insertGrowFixture_any base g n cap vb L x i w ho hn hb hbase (by omega) hvb (by omega)
end Go.Proofs.Ytckenipmebeopaa
