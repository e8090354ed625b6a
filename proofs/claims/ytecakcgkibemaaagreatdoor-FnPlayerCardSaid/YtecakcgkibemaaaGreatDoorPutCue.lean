/-
  Walks: a cue put to its place and added, by the reference.
-/
import Derived.Test.YtecakcgkibemaaaGreatDoorValidCues
import Derived.Test.YtecakcgkibemaaaGreatDoorSlc
import Derived.Test.YtecakcgkibemaaaGreatDoorPutM
import Derived.Deep.CutRange
namespace Go.Proofs.YtecakcgkibemaaaGreatDoor
open Go.RowKit

theorem cCue_ones (x : SCue) : ∀ u ∈ cCue x, u.oneCell' = true := by
  intro u hu
  simp only [cCue, List.mem_cons, List.mem_nil_iff, or_false] at hu
  rcases hu with rfl | rfl | rfl | rfl | rfl | rfl <;> rfl
set_option maxRecDepth 20000 in
set_option maxHeartbeats 8000000 in
theorem l13Put_any (b n c : Nat) (L : List SCue) (x : SCue) (w : World) (hr : Rd w (some ⟨b, 0, none⟩) 6 cCue L) (hn : L.length = n) (hb : n ≤ 4194304) (hcap : n ≤ c) :
    Calls Tryz.prog 58 #[.slice (some ⟨b, 0, none⟩) n c, .agg #[.string x.Id, .int .i64 x.Time, .int .i64 x.Length, .string x.Target, .int .i64 x.Action, .int .i64 x.Value]] w fun e w' => ∃ (k : Nat) (v : Value), e = .returned v ∧ k ≤ n ∧ (∀ y : SCue, 0 < k → L[k - 1]? = some y → ltCu x y = false) ∧ (∀ y : SCue, L[k]? = some y → ltCu x y = true) ∧ G w w' ∧ w'.ownsRow w.heap.size 49 6 v (n + 1) ((putL L x k).flatMap cCue) := by
  obtain ⟨i0, hi, hz0, hz1, hz2⟩ := info_parts infoCue
  have HI := Lib.hid (And.intro hi (And.intro hz0 (And.intro hz1 hz2)))
  clear hi hz0 hz1 hz2
  have Hn := Lib.hid hn
  have HR := Lib.hid hr
  clear hr hn
  have C0 := Lib.hid (show (w.alloc (.cells #[.string x.Id, .int .i64 x.Time, .int .i64 x.Length, .string x.Target, .int .i64 x.Action, .int .i64 x.Value] 49)).cell? ⟨w.heap.size, 0, none⟩ = some (.string x.Id) from World.cell?_alloc_at _ _ _ _ rfl)
  have C1 := Lib.hid (show (w.alloc (.cells #[.string x.Id, .int .i64 x.Time, .int .i64 x.Length, .string x.Target, .int .i64 x.Action, .int .i64 x.Value] 49)).cell? ⟨w.heap.size, 1, none⟩ = some (.int .i64 x.Time) from World.cell?_alloc_at _ _ _ _ rfl)
  have C2 := Lib.hid (show (w.alloc (.cells #[.string x.Id, .int .i64 x.Time, .int .i64 x.Length, .string x.Target, .int .i64 x.Action, .int .i64 x.Value] 49)).cell? ⟨w.heap.size, 2, none⟩ = some (.int .i64 x.Length) from World.cell?_alloc_at _ _ _ _ rfl)
  have C3 := Lib.hid (show (w.alloc (.cells #[.string x.Id, .int .i64 x.Time, .int .i64 x.Length, .string x.Target, .int .i64 x.Action, .int .i64 x.Value] 49)).cell? ⟨w.heap.size, 3, none⟩ = some (.string x.Target) from World.cell?_alloc_at _ _ _ _ rfl)
  have C4 := Lib.hid (show (w.alloc (.cells #[.string x.Id, .int .i64 x.Time, .int .i64 x.Length, .string x.Target, .int .i64 x.Action, .int .i64 x.Value] 49)).cell? ⟨w.heap.size, 4, none⟩ = some (.int .i64 x.Action) from World.cell?_alloc_at _ _ _ _ rfl)
  have C5 := Lib.hid (show (w.alloc (.cells #[.string x.Id, .int .i64 x.Time, .int .i64 x.Length, .string x.Target, .int .i64 x.Action, .int .i64 x.Value] 49)).cell? ⟨w.heap.size, 5, none⟩ = some (.int .i64 x.Value) from World.cell?_alloc_at _ _ _ _ rfl)
  have GB := Lib.hid ((G.refl w).alloc (.cells #[.string x.Id, .int .i64 x.Time, .int .i64 x.Length, .string x.Target, .int .i64 x.Action, .int .i64 x.Value] 49))
  have hsb : (w.alloc (.cells #[.string x.Id, .int .i64 x.Time, .int .i64 x.Length, .string x.Target, .int .i64 x.Action, .int .i64 x.Value] 49)).heap.size = w.heap.size + 1 := by simp
  go_enter Tryz.func58, Tryz.ntmps58
  go_wp2
  go_loopw [5] (fun i wr => ∃ a : Nat, a ≤ n ∧ i = .int .i64 a ∧ Hid (∀ y : SCue, L[a]? = some y → ltCu x y = true) ∧ Hid (G (w.alloc (.cells #[.string x.Id, .int .i64 x.Time, .int .i64 x.Length, .string x.Target, .int .i64 x.Action, .int .i64 x.Value] 49)) wr)) (fun i _ => (intOf i).toNat)
  case atStart => exact ⟨n, Nat.le_refl _, rfl, Lib.hid (fun y hy => by rw [List.getElem?_eq_none (by rw [Hn.out]; exact Nat.le_refl _)] at hy; cases hy), Lib.hid (G.refl _)⟩
  case round =>
    obtain ⟨a, ha, rfl, HH, G3⟩ := hrel
    have ha0 : 0 ≤ (a : Int) := by omega
    have s3 := G3.out.size
    rw [hsb] at s3
    by_cases h0 : a = 0
    · subst h0
      obtain ⟨wE, rfl⟩ : ∃ wE : World, wE = wr := ⟨_, rfl⟩
      have GE := G3
      have hE : w.heap.size + 1 ≤ wE.heap.size := s3
      obtain ⟨a, HAZ⟩ : ∃ a : Nat, a = 0 := ⟨_, rfl⟩
      rw [← HAZ] at ha HH
      have HLO := Lib.hid (show ∀ y : SCue, 0 < a → L[a - 1]? = some y → ltCu x y = false from fun y h => by omega)
      have hz : ((0 : Nat) : Int) = (a : Int) := by omega
      rw [hz]
      clear hz ha0
      have ha0 : 0 ≤ (a : Int) := by omega
      have hgd : decide (0 < (a : Int)) = false := by simp; omega
      have hgd2 : ¬ (0 < (a : Int)) := by omega
      clear HAZ s3
      have ha1 : (a : Int) ≤ (n : Int) := by omega
      have ha2 : (a : Int) ≤ (c : Int) := by omega
      have hac : a ≤ c := by omega
      have HL1 := Lib.hid (show ((L.take a).flatMap cCue).length = a * 6 by rw [flat_len cCue_len, List.length_take, Hn.out]; congr 1; omega)
      have HL2 := Lib.hid (show ((L.drop a).flatMap cCue).length = (n - a) * 6 by rw [flat_len cCue_len, List.length_drop, Hn.out])
      have HNW := Lib.hid (fun (W : World) (g : G w W) => rd_news cCue_len (HR.out.G g))
      clear hsb
      by_cases hca : c = a
      · subst hca
        go_wp2_with (at_builtin; refine wpList_append_own _ rfl (.tmp 20) (.tmp 23) 23 rfl w.heap.size 49 i0 (.agg #[.string ⟨#[]⟩, .int .i64 0, .int .i64 0, .string ⟨#[]⟩, .int .i64 0, .int .i64 0]) 6 64 Tryz.underlying23 HI.out.1 HI.out.2.1 HI.out.2.2.1 HI.out.2.2.2 rfl (by decide) _ (0) _ rfl (World.ownsRow_lit (size := 6) wE #[] 0 ?c4 ?c5 rfl) ⟨b, 0, none⟩ (c) (c) ((L.take c).flatMap cCue) rfl HL1.out ?c6 (flat_one cCue_ones _) ?c1 ?c2 ?c3 ?_)
        case c1 => unfold maxLen; omega
        case c2 => omega
        case c3 => first | omega | (simp; omega)
        try (case c4 => first | omega | (simp; omega))
        try (case c5 => unfold maxLen; omega)
        case c6 =>
          intro j u hj
          rw [← flat_take cCue_len, List.getElem?_take] at hj
          split at hj
          · have := HNW.out _ ((GB.out.trans GE.out).alloc (.cells #[] 49)) j u hj
            first | exact this | (rw [Addr.add_lit] at this; simpa using this)
          · cases hj
        intro v5 w5 hown hgrow _
        have HO5 := Lib.hid (show w5.ownsRow w.heap.size 49 6 v5 c ((L.take c).flatMap cCue) by simpa using hown)
        have G5 := Lib.hid ((GE.out.alloc _).grown hgrow (by intro q hq; simp [Value.ownBlock] at hq; simp; omega))
        have d0 := G5.out.cell C0.out
        have d1 := G5.out.cell C1.out
        have d2 := G5.out.cell C2.out
        have d3 := G5.out.cell C3.out
        have d4 := G5.out.cell C4.out
        have d5 := G5.out.cell C5.out
        have s5 := G5.out.size
        have s5b : w.heap.size + 1 ≤ w5.heap.size := by simp at s5; omega
        clear hown hgrow s5
        go_wp2_with (at_builtin; refine wpList_append_own _ rfl (.tmp 25) (.tmp 27) 23 rfl w.heap.size 49 i0 (.agg #[.string ⟨#[]⟩, .int .i64 0, .int .i64 0, .string ⟨#[]⟩, .int .i64 0, .int .i64 0]) 6 64 Tryz.underlying23 HI.out.1 HI.out.2.1 HI.out.2.2.1 HI.out.2.2.2 rfl (by decide) _ (c) _ rfl (HO5.out.alloc _) ⟨w5.heap.size, 0, none⟩ (1) (1) (cCue x) rfl rfl (block_news _ (cCue x) _) (cCue_ones x) ?c1 ?c2 ?c3 ?_)
        case c1 => unfold maxLen; omega
        case c2 => omega
        case c3 => first | omega | (simp; omega)
        intro v6 w6 hown hgrow _
        have HO6 := Lib.hid (show w6.ownsRow w.heap.size 49 6 v6 (c + 1) ((L.take c ++ [x]).flatMap cCue) by rw [List.flatMap_append]; simpa using hown)
        have G6 := Lib.hid (show G w w6 from ((GB.out.trans G5.out).alloc _).grown hgrow (own_block_of HO5.out))
        have s6 := G6.out.size
        clear hown hgrow d0 d1 d2 d3 d4 d5
        obtain rfl : n = c := by omega
        have HD := Lib.hid (show L.drop n = [] from List.drop_of_length_le (by rw [Hn.out]; exact Nat.le_refl _))
        go_wp2_with (at_builtin; refine wpList_append_own _ rfl (.tmp 29) (.tmp 32) 23 rfl w.heap.size 49 i0 (.agg #[.string ⟨#[]⟩, .int .i64 0, .int .i64 0, .string ⟨#[]⟩, .int .i64 0, .int .i64 0]) 6 64 Tryz.underlying23 HI.out.1 HI.out.2.1 HI.out.2.2.1 HI.out.2.2.2 rfl (by decide) _ (n + 1) _ rfl HO6.out ⟨b, 0, none⟩ (0) (0) [] rfl rfl (fun j u hj => by simp at hj) (fun u hu => by simp at hu) ?c1 ?c2 ?c3 ?_)
        case c1 => unfold maxLen; omega
        case c2 => omega
        case c3 => omega
        intro v7 w7 hown hgrow _
        have HO7 := Lib.hid (show w7.ownsRow w.heap.size 49 6 v7 (n + 1) ((putL L x n).flatMap cCue) by unfold putL; rw [HD.out]; simpa using hown)
        have G7 := Lib.hid (G6.out.grown hgrow (own_block_of HO6.out))
        clear hown hgrow
        go_wp2
        go_ret
        exact ⟨n, v7, rfl, Nat.le_refl _, HLO.out, HH.out, G7.out, HO7.out⟩
      · skip
        go_wp2_with (at_builtin; refine wpList_append_own _ rfl (.tmp 20) (.tmp 23) 23 rfl w.heap.size 49 i0 (.agg #[.string ⟨#[]⟩, .int .i64 0, .int .i64 0, .string ⟨#[]⟩, .int .i64 0, .int .i64 0]) 6 64 Tryz.underlying23 HI.out.1 HI.out.2.1 HI.out.2.2.1 HI.out.2.2.2 rfl (by decide) _ (0) _ rfl (World.ownsRow_lit (size := 6) wE #[] 0 ?c4 ?c5 rfl) ⟨b, 0, none⟩ (a) (c) ((L.take a).flatMap cCue) rfl HL1.out ?c6 (flat_one cCue_ones _) ?c1 ?c2 ?c3 ?_)
        case c1 => unfold maxLen; omega
        case c2 => omega
        case c3 => first | omega | (simp; omega)
        try (case c4 => first | omega | (simp; omega))
        try (case c5 => unfold maxLen; omega)
        case c6 =>
          intro j u hj
          rw [← flat_take cCue_len, List.getElem?_take] at hj
          split at hj
          · have := HNW.out _ ((GB.out.trans GE.out).alloc (.cells #[] 49)) j u hj
            first | exact this | (rw [Addr.add_lit] at this; simpa using this)
          · cases hj
        intro v5 w5 hown hgrow _
        have HO5 := Lib.hid (show w5.ownsRow w.heap.size 49 6 v5 a ((L.take a).flatMap cCue) by simpa using hown)
        have G5 := Lib.hid ((GE.out.alloc _).grown hgrow (by intro q hq; simp [Value.ownBlock] at hq; simp; omega))
        have d0 := G5.out.cell C0.out
        have d1 := G5.out.cell C1.out
        have d2 := G5.out.cell C2.out
        have d3 := G5.out.cell C3.out
        have d4 := G5.out.cell C4.out
        have d5 := G5.out.cell C5.out
        have s5 := G5.out.size
        have s5b : w.heap.size + 1 ≤ w5.heap.size := by simp at s5; omega
        clear hown hgrow s5
        go_wp2_with (at_builtin; refine wpList_append_own _ rfl (.tmp 25) (.tmp 27) 23 rfl w.heap.size 49 i0 (.agg #[.string ⟨#[]⟩, .int .i64 0, .int .i64 0, .string ⟨#[]⟩, .int .i64 0, .int .i64 0]) 6 64 Tryz.underlying23 HI.out.1 HI.out.2.1 HI.out.2.2.1 HI.out.2.2.2 rfl (by decide) _ (a) _ rfl (HO5.out.alloc _) ⟨w5.heap.size, 0, none⟩ (1) (1) (cCue x) rfl rfl (block_news _ (cCue x) _) (cCue_ones x) ?c1 ?c2 ?c3 ?_)
        case c1 => unfold maxLen; omega
        case c2 => omega
        case c3 => first | omega | (simp; omega)
        intro v6 w6 hown hgrow _
        have HO6 := Lib.hid (show w6.ownsRow w.heap.size 49 6 v6 (a + 1) ((L.take a ++ [x]).flatMap cCue) by rw [List.flatMap_append]; simpa using hown)
        have G6 := Lib.hid (show G w w6 from ((GB.out.trans G5.out).alloc _).grown hgrow (own_block_of HO5.out))
        have s6 := G6.out.size
        clear hown hgrow d0 d1 d2 d3 d4 d5
        go_wp2_with (at_builtin; refine wpList_append_own _ rfl (.tmp 29) (.tmp 32) 23 rfl w.heap.size 49 i0 (.agg #[.string ⟨#[]⟩, .int .i64 0, .int .i64 0, .string ⟨#[]⟩, .int .i64 0, .int .i64 0]) 6 64 Tryz.underlying23 HI.out.1 HI.out.2.1 HI.out.2.2.1 HI.out.2.2.2 rfl (by decide) _ (a + 1) _ rfl HO6.out ⟨b, a * 6, none⟩ (n - a) (c - a) ((L.drop a).flatMap cCue) rfl HL2.out ?c6 (flat_one cCue_ones _) ?c1 ?c2 ?c3 ?_)
        case c1 => unfold maxLen; omega
        case c2 => omega
        case c3 => omega
        case c6 =>
          intro j u hj
          rw [← flat_drop cCue_len, List.getElem?_drop] at hj
          have := HNW.out _ G6.out _ u hj
          rw [Addr.add_lit] at this ⊢
          simpa using this
        intro v7 w7 hown hgrow _
        have HO7 := Lib.hid (show w7.ownsRow w.heap.size 49 6 v7 (n + 1) ((putL L x a).flatMap cCue) by
          have h1 := hown
          rw [show a + 1 + (n - a) = n + 1 by omega] at h1
          unfold putL
          rw [List.flatMap_append, List.flatMap_cons]
          first | exact h1 | simpa using h1)
        have G7 := Lib.hid (G6.out.grown hgrow (own_block_of HO6.out))
        clear hown hgrow
        go_wp2
        go_ret
        exact ⟨a, v7, rfl, ha, HLO.out, HH.out, G7.out, HO7.out⟩
    · obtain ⟨j, HJ⟩ : ∃ j, Hid (a = j + 1) := ⟨a - 1, Lib.hid (by omega)⟩
      have hjn : j < n := by have := HJ.out; omega
      have hgd : decide (0 < (a : Int)) = true := by simp; omega
      have hgd2 : (0 < (a : Int)) := by omega
      have hj1 : (a : Int) - 1 = (j : Int) := by have := HJ.out; omega
      have hj0 : 0 ≤ (j : Int) := by omega
      have hj2 : (j : Int) < (n : Int) := by omega
      obtain ⟨b', o, y, hA', hy, hc0, hc1, hc2, hc3, hc4, hc5⟩ := (HR.out.G (GB.out.trans G3.out)).Cue (k := j) (by rw [Hn.out]; exact hjn)
      obtain ⟨rfl, rfl⟩ : b = b' ∧ 0 = o := by simpa using hA'
      simp only [Nat.zero_add] at hc0 hc1
      have HY := Lib.hid hy
      have KB := Lib.hid (l13Before_any x y w.heap.size 0 b (j * 6) wr (G3.out.cell C0.out) (G3.out.cell C1.out) hc0 hc1)
      clear hy hA' hc0 hc1 hc2 hc3 hc4 hc5
      cases hlt : ltCu x y
      · have HLO := Lib.hid (show ∀ z : SCue, 0 < a → L[a - 1]? = some z → ltCu x z = false from fun z _ hz => by
          rw [show a - 1 = j by have := HJ.out; omega, HY.out] at hz; cases hz; exact hlt)
        rw [hlt] at KB
        clear hlt
        go_upto_region 4 with (go_at_call 41; refine KB.out.mono ?_; rintro e wE ⟨rfl, gE⟩; have GE := Lib.hid (G3.out.trans gE); have hE : w.heap.size + 1 ≤ wE.heap.size := Nat.le_trans s3 gE.size; clear gE)
        clear KB HY s3 hj1 hj2 hgd hgd2
        have ha1 : (a : Int) ≤ (n : Int) := by omega
        have ha2 : (a : Int) ≤ (c : Int) := by omega
        have hac : a ≤ c := by omega
        have HL1 := Lib.hid (show ((L.take a).flatMap cCue).length = a * 6 by rw [flat_len cCue_len, List.length_take, Hn.out]; congr 1; omega)
        have HL2 := Lib.hid (show ((L.drop a).flatMap cCue).length = (n - a) * 6 by rw [flat_len cCue_len, List.length_drop, Hn.out])
        have HNW := Lib.hid (fun (W : World) (g : G w W) => rd_news cCue_len (HR.out.G g))
        clear hsb
        by_cases hca : c = a
        · subst hca
          go_wp2_with (at_builtin; refine wpList_append_own _ rfl (.tmp 20) (.tmp 23) 23 rfl w.heap.size 49 i0 (.agg #[.string ⟨#[]⟩, .int .i64 0, .int .i64 0, .string ⟨#[]⟩, .int .i64 0, .int .i64 0]) 6 64 Tryz.underlying23 HI.out.1 HI.out.2.1 HI.out.2.2.1 HI.out.2.2.2 rfl (by decide) _ (0) _ rfl (World.ownsRow_lit (size := 6) wE #[] 0 ?c4 ?c5 rfl) ⟨b, 0, none⟩ (c) (c) ((L.take c).flatMap cCue) rfl HL1.out ?c6 (flat_one cCue_ones _) ?c1 ?c2 ?c3 ?_)
          case c1 => unfold maxLen; omega
          case c2 => omega
          case c3 => first | omega | (simp; omega)
          try (case c4 => first | omega | (simp; omega))
          try (case c5 => unfold maxLen; omega)
          case c6 =>
            intro j u hj
            rw [← flat_take cCue_len, List.getElem?_take] at hj
            split at hj
            · have := HNW.out _ ((GB.out.trans GE.out).alloc (.cells #[] 49)) j u hj
              first | exact this | (rw [Addr.add_lit] at this; simpa using this)
            · cases hj
          intro v5 w5 hown hgrow _
          have HO5 := Lib.hid (show w5.ownsRow w.heap.size 49 6 v5 c ((L.take c).flatMap cCue) by simpa using hown)
          have G5 := Lib.hid ((GE.out.alloc _).grown hgrow (by intro q hq; simp [Value.ownBlock] at hq; simp; omega))
          have d0 := G5.out.cell C0.out
          have d1 := G5.out.cell C1.out
          have d2 := G5.out.cell C2.out
          have d3 := G5.out.cell C3.out
          have d4 := G5.out.cell C4.out
          have d5 := G5.out.cell C5.out
          have s5 := G5.out.size
          have s5b : w.heap.size + 1 ≤ w5.heap.size := by simp at s5; omega
          clear hown hgrow s5
          go_wp2_with (at_builtin; refine wpList_append_own _ rfl (.tmp 25) (.tmp 27) 23 rfl w.heap.size 49 i0 (.agg #[.string ⟨#[]⟩, .int .i64 0, .int .i64 0, .string ⟨#[]⟩, .int .i64 0, .int .i64 0]) 6 64 Tryz.underlying23 HI.out.1 HI.out.2.1 HI.out.2.2.1 HI.out.2.2.2 rfl (by decide) _ (c) _ rfl (HO5.out.alloc _) ⟨w5.heap.size, 0, none⟩ (1) (1) (cCue x) rfl rfl (block_news _ (cCue x) _) (cCue_ones x) ?c1 ?c2 ?c3 ?_)
          case c1 => unfold maxLen; omega
          case c2 => omega
          case c3 => first | omega | (simp; omega)
          intro v6 w6 hown hgrow _
          have HO6 := Lib.hid (show w6.ownsRow w.heap.size 49 6 v6 (c + 1) ((L.take c ++ [x]).flatMap cCue) by rw [List.flatMap_append]; simpa using hown)
          have G6 := Lib.hid (show G w w6 from ((GB.out.trans G5.out).alloc _).grown hgrow (own_block_of HO5.out))
          have s6 := G6.out.size
          clear hown hgrow d0 d1 d2 d3 d4 d5
          obtain rfl : n = c := by omega
          have HD := Lib.hid (show L.drop n = [] from List.drop_of_length_le (by rw [Hn.out]; exact Nat.le_refl _))
          go_wp2_with (at_builtin; refine wpList_append_own _ rfl (.tmp 29) (.tmp 32) 23 rfl w.heap.size 49 i0 (.agg #[.string ⟨#[]⟩, .int .i64 0, .int .i64 0, .string ⟨#[]⟩, .int .i64 0, .int .i64 0]) 6 64 Tryz.underlying23 HI.out.1 HI.out.2.1 HI.out.2.2.1 HI.out.2.2.2 rfl (by decide) _ (n + 1) _ rfl HO6.out ⟨b, 0, none⟩ (0) (0) [] rfl rfl (fun j u hj => by simp at hj) (fun u hu => by simp at hu) ?c1 ?c2 ?c3 ?_)
          case c1 => unfold maxLen; omega
          case c2 => omega
          case c3 => omega
          intro v7 w7 hown hgrow _
          have HO7 := Lib.hid (show w7.ownsRow w.heap.size 49 6 v7 (n + 1) ((putL L x n).flatMap cCue) by unfold putL; rw [HD.out]; simpa using hown)
          have G7 := Lib.hid (G6.out.grown hgrow (own_block_of HO6.out))
          clear hown hgrow
          go_wp2
          go_ret
          exact ⟨n, v7, rfl, Nat.le_refl _, HLO.out, HH.out, G7.out, HO7.out⟩
        · skip
          go_wp2_with (at_builtin; refine wpList_append_own _ rfl (.tmp 20) (.tmp 23) 23 rfl w.heap.size 49 i0 (.agg #[.string ⟨#[]⟩, .int .i64 0, .int .i64 0, .string ⟨#[]⟩, .int .i64 0, .int .i64 0]) 6 64 Tryz.underlying23 HI.out.1 HI.out.2.1 HI.out.2.2.1 HI.out.2.2.2 rfl (by decide) _ (0) _ rfl (World.ownsRow_lit (size := 6) wE #[] 0 ?c4 ?c5 rfl) ⟨b, 0, none⟩ (a) (c) ((L.take a).flatMap cCue) rfl HL1.out ?c6 (flat_one cCue_ones _) ?c1 ?c2 ?c3 ?_)
          case c1 => unfold maxLen; omega
          case c2 => omega
          case c3 => first | omega | (simp; omega)
          try (case c4 => first | omega | (simp; omega))
          try (case c5 => unfold maxLen; omega)
          case c6 =>
            intro j u hj
            rw [← flat_take cCue_len, List.getElem?_take] at hj
            split at hj
            · have := HNW.out _ ((GB.out.trans GE.out).alloc (.cells #[] 49)) j u hj
              first | exact this | (rw [Addr.add_lit] at this; simpa using this)
            · cases hj
          intro v5 w5 hown hgrow _
          have HO5 := Lib.hid (show w5.ownsRow w.heap.size 49 6 v5 a ((L.take a).flatMap cCue) by simpa using hown)
          have G5 := Lib.hid ((GE.out.alloc _).grown hgrow (by intro q hq; simp [Value.ownBlock] at hq; simp; omega))
          have d0 := G5.out.cell C0.out
          have d1 := G5.out.cell C1.out
          have d2 := G5.out.cell C2.out
          have d3 := G5.out.cell C3.out
          have d4 := G5.out.cell C4.out
          have d5 := G5.out.cell C5.out
          have s5 := G5.out.size
          have s5b : w.heap.size + 1 ≤ w5.heap.size := by simp at s5; omega
          clear hown hgrow s5
          go_wp2_with (at_builtin; refine wpList_append_own _ rfl (.tmp 25) (.tmp 27) 23 rfl w.heap.size 49 i0 (.agg #[.string ⟨#[]⟩, .int .i64 0, .int .i64 0, .string ⟨#[]⟩, .int .i64 0, .int .i64 0]) 6 64 Tryz.underlying23 HI.out.1 HI.out.2.1 HI.out.2.2.1 HI.out.2.2.2 rfl (by decide) _ (a) _ rfl (HO5.out.alloc _) ⟨w5.heap.size, 0, none⟩ (1) (1) (cCue x) rfl rfl (block_news _ (cCue x) _) (cCue_ones x) ?c1 ?c2 ?c3 ?_)
          case c1 => unfold maxLen; omega
          case c2 => omega
          case c3 => first | omega | (simp; omega)
          intro v6 w6 hown hgrow _
          have HO6 := Lib.hid (show w6.ownsRow w.heap.size 49 6 v6 (a + 1) ((L.take a ++ [x]).flatMap cCue) by rw [List.flatMap_append]; simpa using hown)
          have G6 := Lib.hid (show G w w6 from ((GB.out.trans G5.out).alloc _).grown hgrow (own_block_of HO5.out))
          have s6 := G6.out.size
          clear hown hgrow d0 d1 d2 d3 d4 d5
          go_wp2_with (at_builtin; refine wpList_append_own _ rfl (.tmp 29) (.tmp 32) 23 rfl w.heap.size 49 i0 (.agg #[.string ⟨#[]⟩, .int .i64 0, .int .i64 0, .string ⟨#[]⟩, .int .i64 0, .int .i64 0]) 6 64 Tryz.underlying23 HI.out.1 HI.out.2.1 HI.out.2.2.1 HI.out.2.2.2 rfl (by decide) _ (a + 1) _ rfl HO6.out ⟨b, a * 6, none⟩ (n - a) (c - a) ((L.drop a).flatMap cCue) rfl HL2.out ?c6 (flat_one cCue_ones _) ?c1 ?c2 ?c3 ?_)
          case c1 => unfold maxLen; omega
          case c2 => omega
          case c3 => omega
          case c6 =>
            intro j u hj
            rw [← flat_drop cCue_len, List.getElem?_drop] at hj
            have := HNW.out _ G6.out _ u hj
            rw [Addr.add_lit] at this ⊢
            simpa using this
          intro v7 w7 hown hgrow _
          have HO7 := Lib.hid (show w7.ownsRow w.heap.size 49 6 v7 (n + 1) ((putL L x a).flatMap cCue) by
            have h1 := hown
            rw [show a + 1 + (n - a) = n + 1 by omega] at h1
            unfold putL
            rw [List.flatMap_append, List.flatMap_cons]
            first | exact h1 | simpa using h1)
          have G7 := Lib.hid (G6.out.grown hgrow (own_block_of HO6.out))
          clear hown hgrow
          go_wp2
          go_ret
          exact ⟨a, v7, rfl, ha, HLO.out, HH.out, G7.out, HO7.out⟩
      · have HH2 := Lib.hid (show ∀ z : SCue, L[j]? = some z → ltCu x z = true from fun z hz => by rw [HY.out] at hz; cases hz; exact hlt)
        rw [hlt] at KB
        clear hlt
        go_wp2_with (go_at_call 41; refine KB.out.mono ?_; rintro e w4 ⟨rfl, g4⟩; have G4 := Lib.hid (G3.out.trans g4); clear g4)
        go_roundw
        case rel => exact ⟨j, by omega, by go_num, HH2, G4⟩
        case measure => simp [intOf]; omega
end Go.Proofs.YtecakcgkibemaaaGreatDoor
