/-
  Walks: the targets of cues, by the reference's text (each inserted at its place).
-/
import Derived.Test.YtdpmnmhblnjhiaaTgt
import Derived.BigQuiet
namespace Go.Proofs.Ytdpmnmhblnjhiaa
open Go.RowKit

theorem sv_one (s : ByteArray) : ∀ u ∈ sv s, u.oneCell' = true := str_oneCell s
theorem own_blk {w : World} {B T n : Nat} {v : Value} {xs : List Value} (h : w.ownsRow B T 1 v n xs) (hn : 0 < n) : ∃ g c, v = .slice (some ⟨g, 0, none⟩) n c ∧ B ≤ g ∧ n ≤ c ∧ c ≤ maxLen := by
  rcases h.2 with ⟨_, rfl⟩ | ⟨g, cap, cur, rfl, hb, _, hn, hm, _⟩
  · omega
  · exact ⟨g, cap, rfl, hb, hn, hm⟩

set_option maxRecDepth 20000 in
set_option maxHeartbeats 8000000 in
theorem l13Targets_any (A : Option Addr) (n c : Nat) (L : List SCue) (w : World) (hr : Rd w A 6 cCue L) (hn : L.length = n) (hb : n ≤ 4096) :
    Calls Try.prog 84 #[.slice A n c] w fun e w' => ∃ A' c', e = .returned (.slice A' (tgN L).length c') ∧ G w w' ∧ w'.ownsRow w.heap.size 9 1 (.slice A' (tgN L).length c') (tgN L).length ((tgN L).flatMap sv) := by
  obtain ⟨i0, hi, hz0, hz1, hz2⟩ := info_parts infoString
  have HI := Lib.hid (And.intro hi (And.intro hz0 (And.intro hz1 hz2)))
  clear hi hz0 hz1 hz2
  have Hn := Lib.hid hn
  have HR := Lib.hid hr
  clear hr hn
  go_enter Try.func84, Try.ntmps84
  go_wp2
  go_loopw [3, 4] (fun v i wr => ∃ (k m g cp : Nat), k ≤ n ∧ i = .int .i64 k ∧ v = .slice (some ⟨g, 0, none⟩) m cp ∧ m ≤ cp ∧ cp ≤ maxLen ∧ m ≤ k ∧ Hid ((tgN (L.take k)).length = m) ∧ Hid (wr.ownsRow w.heap.size 9 1 (.slice (some ⟨g, 0, none⟩) m cp) m ((tgN (L.take k)).flatMap sv)) ∧ Hid (G w wr)) (fun _ i _ => n - (intOf i).toNat)
  case atStart => exact ⟨0, 0, w.heap.size, 0, Nat.zero_le _, rfl, rfl, Nat.le_refl _, Nat.zero_le _, Nat.le_refl _, Lib.hid rfl, Lib.hid (World.ownsRow_lit (size := 1) _ #[] 0 (Nat.le_refl _) (by unfold maxLen; omega) rfl), Lib.hid ((G.refl _).alloc _)⟩
  case round =>
    obtain ⟨k, m, g, cp, hk, rfl, rfl, hmc, hcm, hmk, HOL, HO, G0⟩ := hrel
    obtain ⟨wo, rfl⟩ : ∃ wo : World, wo = wr := ⟨_, rfl⟩
    have s0 := G0.out.size
    unfold maxLen at hcm
    by_cases hlt : k < n
    · obtain ⟨b, o, x, rfl, hx, hc0, hc1, hc2, hc3, hc4, hc5⟩ := (HR.out.G G0.out).Cue (k := k) (by rw [Hn.out]; exact hlt)
      have HS := Lib.hid (show tgN (L.take (k + 1)) = ins x.Target (tgN (L.take k)) by rw [take_snoc hx, tgN_snoc])
      obtain ⟨O, HOe⟩ : ∃ O, Hid (tgN (L.take k) = O) := ⟨_, rfl⟩
      rw [HOe.out] at HS HOL HO
      have RO := Lib.hid (rd_strs HO.out)
      have C3 := Lib.hid hc3
      have hk0 : 0 ≤ (k : Int) := by omega
      have hk1 : (k : Int) < (n : Int) := by omega
      clear hx hc0 hc1 hc2 hc3 hc4 hc5
      go_wp2
      go_loopw [5] (fun v wr => ∃ (a : Nat), a ≤ m ∧ v = .int .i64 a ∧ Hid ((O.take a).all (fun z => ltB z x.Target) = true) ∧ Hid (G wo wr)) (fun v _ => m - (intOf v).toNat)
      case atStart => exact ⟨0, Nat.zero_le _, rfl, Lib.hid (by simp), Lib.hid (G.refl _)⟩
      case round =>
        obtain ⟨a, ham, rfl, HA, GI⟩ := hrel
        have ha0 : 0 ≤ (a : Int) := by omega
        have hc3 := GI.out.cell C3.out
        have gc3 := cellR hc3
        by_cases hlm : a < m
        · obtain ⟨b', o', y, he', hy, hcy⟩ := (RO.out.G GI.out).str (k := a) (by rw [HOL.out]; exact hlm)
          cases he'
          rw [Nat.zero_add] at hcy
          have HY := Lib.hid hy
          have gcy := cellR hcy
          have hd1 : decide ((a : Int) < (m : Int)) = true := by simp; omega
          have hlm2 : (a : Int) < (m : Int) := by omega
          clear hy
          cases hq : ltB y x.Target
          · have hd2 : Op.bytesLess y.toList x.Target.toList = false := hq
            have HQ := Lib.hid hq
            clear hq
            go_wp2
            refine region_quiet_G (by kernel_rfl) (by kernel_rfl) ?_; (repeat (go_big_quiet_step ((fail)))); refine wpQuiet_nil ?_
            intro w1 hg1
            have G1 := Lib.hid (GI.out.trans hg1)
            have hc3 := G1.out.cell C3.out
            obtain ⟨b', o', y', he', hy', hcy⟩ := (RO.out.G G1.out).str (k := a) (by rw [HOL.out]; exact hlm)
            cases he'
            rw [Nat.zero_add] at hcy
            rw [HY.out] at hy'
            cases hy'
            clear hg1 gc3 gcy
            have gc3 := cellR hc3
            have gcy := cellR hcy
            cases hq3 : eqS y x.Target
            · have hd3 : (y.toList == x.Target.toList) = false := hq3
              have HIN := Lib.hid (show tgN (L.take (k + 1)) = O.take a ++ x.Target :: O.drop a by
                rw [HS.out]; exact ins_at_miss HA.out (by rw [HOL.out]; exact ham) (fun z hz => by rw [HY.out] at hz; cases hz; exact ⟨HQ.out, hq3⟩))
              clear hq3
              go_wp2
              refine region_quiet_G (by kernel_rfl) (by kernel_rfl) ?_; (repeat (go_big_quiet_step ((fail)))); refine wpQuiet_nil ?_
              intro w2 hg2
              have G2 := Lib.hid (G1.out.trans hg2)
              clear hg2 gc3 gcy hd1 hd2 hd3 hcy hc3
              have hca : ¬ cp = a := by omega
              have ha1 : (a : Int) ≤ (m : Int) := by omega
              have ha2 : (a : Int) ≤ (cp : Int) := by omega
              have hac : a ≤ cp := by omega
              have hmm : m ≤ 4096 := by omega
              have sW := G2.out.size
              have s1W := sW
              have HL1 := Lib.hid (show ((O.take a).flatMap sv).length = a * 1 by rw [flat_len (sz := 1) (fun _ => rfl), List.length_take, HOL.out]; congr 1; omega)
              have HL2 := Lib.hid (show ((O.drop a).flatMap sv).length = (m - a) * 1 by rw [flat_len (sz := 1) (fun _ => rfl), List.length_drop, HOL.out])
              have hgo := (HO.out.lt g rfl).2
              have HNW := Lib.hid (fun (W : World) (hW : G wo W) => rd_news (sz := 1) (fun _ => rfl) (RO.out.G hW))
              go_wp2_with (at_builtin; refine wpList_append_own _ rfl (.tmp 48) (.tmp 51) 47 rfl wo.heap.size 9 i0 (.string ⟨#[]⟩) 1 16 Try.underlying47 HI.out.1 HI.out.2.1 HI.out.2.2.1 HI.out.2.2.2 rfl (by decide) _ (0) _ rfl (World.ownsRow_lit (base := wo.heap.size) (size := 1) w2 #[] 0 ?c4 ?c5 rfl) ⟨g, 0, none⟩ (a) (cp) ((O.take a).flatMap sv) rfl HL1.out ?c6 (flat_one sv_one _) ?c1 ?c2 ?c3 ?_)
              case c1 => unfold maxLen; omega
              case c2 => omega
              case c3 => simp; omega
              case c4 => omega
              case c5 => unfold maxLen; omega
              case c6 =>
                intro j u hj
                have hj2 : ((O.flatMap sv).take (a * 1))[j]? = some u := by rw [flat_take (sz := 1) (fun _ => rfl)]; exact hj
                rw [List.getElem?_take] at hj2
                split at hj2
                · exact HNW.out _ (G2.out.alloc _) j u hj2
                · cases hj2
              intro v5 w5 hown hgrow _
              have HO5 := Lib.hid (show w5.ownsRow wo.heap.size 9 1 v5 a ((O.take a).flatMap sv) by simpa using hown)
              have G5 := Lib.hid ((G2.out.alloc _).grown hgrow (by intro q hq; simp [Value.ownBlock] at hq; omega))
              have d3 := G5.out.cell C3.out
              have s5 := G5.out.size
              clear hown hgrow
              go_wp2_with (at_builtin; refine wpList_append_own _ rfl (.tmp 53) (.tmp 59) 47 rfl wo.heap.size 9 i0 (.string ⟨#[]⟩) 1 16 Try.underlying47 HI.out.1 HI.out.2.1 HI.out.2.2.1 HI.out.2.2.2 rfl (by decide) _ (a) _ rfl (HO5.out.alloc _) ⟨w5.heap.size, 0, none⟩ (1) (1) [.string x.Target] rfl rfl (block_news _ [.string x.Target] _) (str_oneCell x.Target) ?c1 ?c2 ?c3 ?_)
              case c1 => unfold maxLen; omega
              case c2 => omega
              case c3 => simp; omega
              intro v6 w6 hown hgrow _
              have HO6 := Lib.hid (show w6.ownsRow wo.heap.size 9 1 v6 (a + 1) ((O.take a ++ [x.Target]).flatMap sv) by rw [List.flatMap_append]; simpa [sv] using hown)
              have G6 := Lib.hid (show G wo w6 from (G5.out.alloc _).grown hgrow (own_block_of HO5.out))
              have s6 := G6.out.size
              clear hown hgrow d3
              go_wp2_with (at_builtin; refine wpList_append_own _ rfl (.tmp 61) (.tmp 64) 47 rfl wo.heap.size 9 i0 (.string ⟨#[]⟩) 1 16 Try.underlying47 HI.out.1 HI.out.2.1 HI.out.2.2.1 HI.out.2.2.2 rfl (by decide) _ (a + 1) _ rfl HO6.out ⟨g, a, none⟩ (m - a) (cp - a) ((O.drop a).flatMap sv) rfl HL2.out ?c6 (flat_one sv_one _) ?c1 ?c2 ?c3 ?_)
              case c1 => unfold maxLen; omega
              case c2 => omega
              case c3 => omega
              case c6 =>
                intro j u hj
                have hj2 : ((O.flatMap sv).drop (a * 1))[j]? = some u := by rw [flat_drop (sz := 1) (fun _ => rfl)]; exact hj
                rw [List.getElem?_drop] at hj2
                have := HNW.out _ G6.out _ u hj2
                rw [Addr.add_lit] at this ⊢
                simpa using this
              intro v7 w7 hown hgrow _
              have HO7 := Lib.hid (show w7.ownsRow wo.heap.size 9 1 v7 (m + 1) ((tgN (L.take (k + 1))).flatMap sv) by
                have h1 := hown
                rw [show a + 1 + (m - a) = m + 1 by omega] at h1
                rw [HIN.out, List.flatMap_append, List.flatMap_cons]
                first | exact h1 | simpa [sv] using h1)
              have HLN := Lib.hid (show (tgN (L.take (k + 1))).length = m + 1 by rw [HIN.out, List.length_append, List.length_cons, List.length_take, List.length_drop, HOL.out]; omega)
              have G7 := Lib.hid (G6.out.grown hgrow (own_block_of HO6.out))
              clear hown hgrow
              obtain ⟨g', cp', rfl, hg', hmc', hcm'⟩ := own_blk HO7.out (by omega)
              have HO8 := Lib.hid (HO7.out.mono s0)
              go_wp2
              go_roundw
              case rel => exact ⟨k + 1, m + 1, g', cp', by omega, by go_num, rfl, hmc', hcm', by omega, HLN, HO8, Lib.hid (G0.out.trans G7.out)⟩
              case measure => simp [intOf]; omega
            · have hd3 : (y.toList == x.Target.toList) = true := hq3
              have HIN := Lib.hid (show tgN (L.take (k + 1)) = O by rw [HS.out]; exact ins_at_hit HA.out HY.out HQ.out hq3)
              clear hq3
              go_wp2
              refine region_quiet_G (by kernel_rfl) (by kernel_rfl) ?_; (repeat (go_big_quiet_step ((fail)))); refine wpQuiet_nil ?_
              intro w2 hg2
              have G2 := Lib.hid (G1.out.trans hg2)
              clear hg2 gc3 gcy hd1 hd2 hd3 hcy hc3
              go_wp2
              go_roundw
              case rel => exact ⟨k + 1, m, g, cp, by omega, by go_num, rfl, hmc, by unfold maxLen; omega, by omega, Lib.hid (by rw [HIN.out]; exact HOL.out), Lib.hid (by rw [HIN.out]; exact own_G HO.out G2.out), Lib.hid (G0.out.trans G2.out)⟩
              case measure => simp [intOf]; omega
          · have hd2 : Op.bytesLess y.toList x.Target.toList = true := hq
            have HA2 := Lib.hid (all_snoc (p := fun z => ltB z x.Target) HY.out HA.out hq)
            clear hq
            go_wp2
            refine region_quiet_G (by kernel_rfl) (by kernel_rfl) ?_; (repeat (go_big_quiet_step ((fail)))); refine wpQuiet_nil ?_
            intro w1 hg1
            have G1 := Lib.hid (GI.out.trans hg1)
            clear hg1 gc3 gcy
            go_wp2
            go_roundw
            case rel => exact ⟨a + 1, by omega, by go_num, HA2, G1⟩
            case measure => simp [intOf]; omega
        · obtain rfl : a = m := by omega
          have hd1 : decide ((a : Int) < (a : Int)) = false := by simp
          have HIN := Lib.hid (show tgN (L.take (k + 1)) = O.take a ++ x.Target :: O.drop a by
            rw [HS.out]; exact ins_at_miss HA.out (by rw [HOL.out]; exact ham) (fun z hz => by rw [List.getElem?_eq_none (by rw [HOL.out]; exact Nat.le_refl _)] at hz; cases hz))
          go_wp2
          refine region_quiet_G (by kernel_rfl) (by kernel_rfl) ?_; (repeat (go_big_quiet_step ((fail)))); refine wpQuiet_nil ?_
          intro w1 hg1
          have G1 := Lib.hid (GI.out.trans hg1)
          have hc3 := G1.out.cell C3.out
          clear hg1 gc3
          have gc3 := cellR hc3
          go_wp2
          refine region_quiet_G (by kernel_rfl) (by kernel_rfl) ?_; (repeat (go_big_quiet_step ((fail)))); refine wpQuiet_nil ?_
          intro w2 hg2
          have G2 := Lib.hid (G1.out.trans hg2)
          clear hg2 gc3 hd1 hc3
          by_cases hca : cp = a
          · subst hca
            have ha1 : (cp : Int) ≤ (cp : Int) := by omega
            have ha2 : (cp : Int) ≤ (cp : Int) := by omega
            have hac : cp ≤ cp := by omega
            have hmm : cp ≤ 4096 := by omega
            have sW := G2.out.size
            have s1W := sW
            have HL1 := Lib.hid (show ((O.take cp).flatMap sv).length = cp * 1 by rw [flat_len (sz := 1) (fun _ => rfl), List.length_take, HOL.out]; congr 1; omega)
            have HL2 := Lib.hid (show ((O.drop cp).flatMap sv).length = (cp - cp) * 1 by rw [flat_len (sz := 1) (fun _ => rfl), List.length_drop, HOL.out])
            have hgo := (HO.out.lt g rfl).2
            have HNW := Lib.hid (fun (W : World) (hW : G wo W) => rd_news (sz := 1) (fun _ => rfl) (RO.out.G hW))
            go_wp2_with (at_builtin; refine wpList_append_own _ rfl (.tmp 48) (.tmp 51) 47 rfl wo.heap.size 9 i0 (.string ⟨#[]⟩) 1 16 Try.underlying47 HI.out.1 HI.out.2.1 HI.out.2.2.1 HI.out.2.2.2 rfl (by decide) _ (0) _ rfl (World.ownsRow_lit (base := wo.heap.size) (size := 1) w2 #[] 0 ?c4 ?c5 rfl) ⟨g, 0, none⟩ (cp) (cp) ((O.take cp).flatMap sv) rfl HL1.out ?c6 (flat_one sv_one _) ?c1 ?c2 ?c3 ?_)
            case c1 => unfold maxLen; omega
            case c2 => omega
            case c3 => simp; omega
            case c4 => omega
            case c5 => unfold maxLen; omega
            case c6 =>
              intro j u hj
              have hj2 : ((O.flatMap sv).take (cp * 1))[j]? = some u := by rw [flat_take (sz := 1) (fun _ => rfl)]; exact hj
              rw [List.getElem?_take] at hj2
              split at hj2
              · exact HNW.out _ (G2.out.alloc _) j u hj2
              · cases hj2
            intro v5 w5 hown hgrow _
            have HO5 := Lib.hid (show w5.ownsRow wo.heap.size 9 1 v5 cp ((O.take cp).flatMap sv) by simpa using hown)
            have G5 := Lib.hid ((G2.out.alloc _).grown hgrow (by intro q hq; simp [Value.ownBlock] at hq; omega))
            have d3 := G5.out.cell C3.out
            have s5 := G5.out.size
            clear hown hgrow
            go_wp2_with (at_builtin; refine wpList_append_own _ rfl (.tmp 53) (.tmp 59) 47 rfl wo.heap.size 9 i0 (.string ⟨#[]⟩) 1 16 Try.underlying47 HI.out.1 HI.out.2.1 HI.out.2.2.1 HI.out.2.2.2 rfl (by decide) _ (cp) _ rfl (HO5.out.alloc _) ⟨w5.heap.size, 0, none⟩ (1) (1) [.string x.Target] rfl rfl (block_news _ [.string x.Target] _) (str_oneCell x.Target) ?c1 ?c2 ?c3 ?_)
            case c1 => unfold maxLen; omega
            case c2 => omega
            case c3 => simp; omega
            intro v6 w6 hown hgrow _
            have HO6 := Lib.hid (show w6.ownsRow wo.heap.size 9 1 v6 (cp + 1) ((O.take cp ++ [x.Target]).flatMap sv) by rw [List.flatMap_append]; simpa [sv] using hown)
            have G6 := Lib.hid (show G wo w6 from (G5.out.alloc _).grown hgrow (own_block_of HO5.out))
            have s6 := G6.out.size
            clear hown hgrow d3
            go_wp2_with (at_builtin; refine wpList_append_own _ rfl (.tmp 61) (.tmp 64) 47 rfl wo.heap.size 9 i0 (.string ⟨#[]⟩) 1 16 Try.underlying47 HI.out.1 HI.out.2.1 HI.out.2.2.1 HI.out.2.2.2 rfl (by decide) _ (cp + 1) _ rfl HO6.out ⟨g, 0, none⟩ (0) (0) [] rfl rfl (fun j u hj => by simp at hj) (fun u hu => by simp at hu) ?c1 ?c2 ?c3 ?_)
            case c1 => unfold maxLen; omega
            case c2 => omega
            case c3 => omega
            intro v7 w7 hown hgrow _
            have HD := Lib.hid (show O.drop cp = [] from List.drop_of_length_le (by rw [HOL.out]; exact Nat.le_refl _))
            have HO7 := Lib.hid (show w7.ownsRow wo.heap.size 9 1 v7 (cp + 1) ((tgN (L.take (k + 1))).flatMap sv) by rw [HIN.out, HD.out]; simpa using hown)
            have HLN := Lib.hid (show (tgN (L.take (k + 1))).length = cp + 1 by rw [HIN.out, List.length_append, List.length_cons, List.length_take, List.length_drop, HOL.out]; omega)
            have G7 := Lib.hid (G6.out.grown hgrow (own_block_of HO6.out))
            clear hown hgrow
            obtain ⟨g', cp', rfl, hg', hmc', hcm'⟩ := own_blk HO7.out (by omega)
            have HO8 := Lib.hid (HO7.out.mono s0)
            go_wp2
            go_roundw
            case rel => exact ⟨k + 1, cp + 1, g', cp', by omega, by go_num, rfl, hmc', hcm', by omega, HLN, HO8, Lib.hid (G0.out.trans G7.out)⟩
            case measure => simp [intOf]; omega
          · skip
            have ha1 : (a : Int) ≤ (a : Int) := by omega
            have ha2 : (a : Int) ≤ (cp : Int) := by omega
            have hac : a ≤ cp := by omega
            have hmm : a ≤ 4096 := by omega
            have sW := G2.out.size
            have s1W := sW
            have HL1 := Lib.hid (show ((O.take a).flatMap sv).length = a * 1 by rw [flat_len (sz := 1) (fun _ => rfl), List.length_take, HOL.out]; congr 1; omega)
            have HL2 := Lib.hid (show ((O.drop a).flatMap sv).length = (a - a) * 1 by rw [flat_len (sz := 1) (fun _ => rfl), List.length_drop, HOL.out])
            have hgo := (HO.out.lt g rfl).2
            have HNW := Lib.hid (fun (W : World) (hW : G wo W) => rd_news (sz := 1) (fun _ => rfl) (RO.out.G hW))
            go_wp2_with (at_builtin; refine wpList_append_own _ rfl (.tmp 48) (.tmp 51) 47 rfl wo.heap.size 9 i0 (.string ⟨#[]⟩) 1 16 Try.underlying47 HI.out.1 HI.out.2.1 HI.out.2.2.1 HI.out.2.2.2 rfl (by decide) _ (0) _ rfl (World.ownsRow_lit (base := wo.heap.size) (size := 1) w2 #[] 0 ?c4 ?c5 rfl) ⟨g, 0, none⟩ (a) (cp) ((O.take a).flatMap sv) rfl HL1.out ?c6 (flat_one sv_one _) ?c1 ?c2 ?c3 ?_)
            case c1 => unfold maxLen; omega
            case c2 => omega
            case c3 => simp; omega
            case c4 => omega
            case c5 => unfold maxLen; omega
            case c6 =>
              intro j u hj
              have hj2 : ((O.flatMap sv).take (a * 1))[j]? = some u := by rw [flat_take (sz := 1) (fun _ => rfl)]; exact hj
              rw [List.getElem?_take] at hj2
              split at hj2
              · exact HNW.out _ (G2.out.alloc _) j u hj2
              · cases hj2
            intro v5 w5 hown hgrow _
            have HO5 := Lib.hid (show w5.ownsRow wo.heap.size 9 1 v5 a ((O.take a).flatMap sv) by simpa using hown)
            have G5 := Lib.hid ((G2.out.alloc _).grown hgrow (by intro q hq; simp [Value.ownBlock] at hq; omega))
            have d3 := G5.out.cell C3.out
            have s5 := G5.out.size
            clear hown hgrow
            go_wp2_with (at_builtin; refine wpList_append_own _ rfl (.tmp 53) (.tmp 59) 47 rfl wo.heap.size 9 i0 (.string ⟨#[]⟩) 1 16 Try.underlying47 HI.out.1 HI.out.2.1 HI.out.2.2.1 HI.out.2.2.2 rfl (by decide) _ (a) _ rfl (HO5.out.alloc _) ⟨w5.heap.size, 0, none⟩ (1) (1) [.string x.Target] rfl rfl (block_news _ [.string x.Target] _) (str_oneCell x.Target) ?c1 ?c2 ?c3 ?_)
            case c1 => unfold maxLen; omega
            case c2 => omega
            case c3 => simp; omega
            intro v6 w6 hown hgrow _
            have HO6 := Lib.hid (show w6.ownsRow wo.heap.size 9 1 v6 (a + 1) ((O.take a ++ [x.Target]).flatMap sv) by rw [List.flatMap_append]; simpa [sv] using hown)
            have G6 := Lib.hid (show G wo w6 from (G5.out.alloc _).grown hgrow (own_block_of HO5.out))
            have s6 := G6.out.size
            clear hown hgrow d3
            go_wp2_with (at_builtin; refine wpList_append_own _ rfl (.tmp 61) (.tmp 64) 47 rfl wo.heap.size 9 i0 (.string ⟨#[]⟩) 1 16 Try.underlying47 HI.out.1 HI.out.2.1 HI.out.2.2.1 HI.out.2.2.2 rfl (by decide) _ (a + 1) _ rfl HO6.out ⟨g, a, none⟩ (0) (cp - a) [] rfl rfl (fun j u hj => by simp at hj) (fun u hu => by simp at hu) ?c1 ?c2 ?c3 ?_)
            case c1 => unfold maxLen; omega
            case c2 => omega
            case c3 => omega
            intro v7 w7 hown hgrow _
            have HD := Lib.hid (show O.drop a = [] from List.drop_of_length_le (by rw [HOL.out]; exact Nat.le_refl _))
            have HO7 := Lib.hid (show w7.ownsRow wo.heap.size 9 1 v7 (a + 1) ((tgN (L.take (k + 1))).flatMap sv) by rw [HIN.out, HD.out]; simpa using hown)
            have HLN := Lib.hid (show (tgN (L.take (k + 1))).length = a + 1 by rw [HIN.out, List.length_append, List.length_cons, List.length_take, List.length_drop, HOL.out]; omega)
            have G7 := Lib.hid (G6.out.grown hgrow (own_block_of HO6.out))
            clear hown hgrow
            obtain ⟨g', cp', rfl, hg', hmc', hcm'⟩ := own_blk HO7.out (by omega)
            have HO8 := Lib.hid (HO7.out.mono s0)
            go_wp2
            go_roundw
            case rel => exact ⟨k + 1, a + 1, g', cp', by omega, by go_num, rfl, hmc', hcm', by omega, HLN, HO8, Lib.hid (G0.out.trans G7.out)⟩
            case measure => simp [intOf]; omega
    · obtain rfl : k = n := by omega
      have HTK := Lib.hid (show L.take k = L from List.take_of_length_le (by rw [Hn.out]; exact Nat.le_refl _))
      rw [HTK.out] at HOL HO
      have HOL2 := HOL.out
      subst HOL2
      go_wp2
      go_ret
      exact ⟨_, _, rfl, G0.out, HO.out⟩
end Go.Proofs.Ytdpmnmhblnjhiaa
