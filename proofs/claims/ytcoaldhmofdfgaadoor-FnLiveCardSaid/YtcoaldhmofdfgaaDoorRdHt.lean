/-
  Walks: holds read from a text, by both texts.
-/
import Derived.Test.YtcoaldhmofdfgaaDoorHtText
import Derived.Test.YtcoaldhmofdfgaaDoorTxt
import Derived.Deep.RegionHeld3
import Derived.Deep.DrawnRows
import Derived.Deep.AppendLies
import Derived.Maps.AppendAt
namespace Go.Proofs.YtcoaldhmofdfgaaDoor
open Go.RowKit

theorem cHold_one (x : SHold) : ∀ u ∈ cHold x, u.oneCell' = true := by
  intro u hu
  simp only [cHold, List.mem_cons, List.mem_nil_iff, or_false] at hu
  rcases hu with rfl | rfl <;> rfl
theorem dash_yes : ((mkB [45]).toList == [45]) = true := by rw [ByteArray.toList_eq, mkB_data]; rfl
theorem dash_no {s : ByteArray} (h : s ≠ mkB [45]) : (s.toList == [45]) = false := by
  simp only [beq_eq_false_iff_ne, ne_eq]
  exact fun e => h (dash_iff.2 (by rw [← ByteArray.toList_eq]; exact e))

set_option maxRecDepth 20000 in
set_option maxHeartbeats 4000000 in
theorem l18Read_any (s : ByteArray) (hs : s.size ≤ 1048576) (w : World) :
    Calls Tryd.prog 37 #[.string s] w (ResB w 54 2 cHold (rhR s)) := by
  obtain ⟨i0, hi, hz0, hz1, hz2⟩ := info_parts infoHold
  have HI := Lib.hid (And.intro hi (And.intro hz0 (And.intro hz1 hz2)))
  clear hi hz0 hz1 hz2
  have OE := Lib.hid (World.ownsRow_lit (e := 54) (base := w.heap.size) (size := 2) w #[] 0 (Nat.le_refl _) (by unfold maxLen; omega) rfl)
  have GE := Lib.hid ((G.refl w).alloc (.cells #[] 54))
  by_cases h0 : s = mkB [45]
  · subst h0
    have hd := dash_yes
    go_enter Tryd.func37, Tryd.ntmps37
    go_wp2
    go_ret2
    exact resb_own (M := []) rh_dash rfl OE.out GE.out
  have hd := dash_no h0
  have H0 := Lib.hid h0
  clear h0
  have hpl := splitS_len 32 s
  have HPM := Lib.hid (fun (y : ByteArray) (hy : y ∈ splitS 32 s) => (splitS_mem hy).1)
  have KS := Lib.hid (fun (W : World) => l01Split_any s 32 32 rfl (by omega) W)
  have HEND := Lib.hid (fun (M : List SHold) (h : M.map (fun x => mkB (htOne x)) = splitS 32 s) => rh_end h)
  have HBAD := Lib.hid (fun (k : Nat) (y : ByteArray) (hy : (splitS 32 s)[k]? = some y) (h : (splitS 43 y).length ≠ 2) => rh_len H0.out hy h)
  have HBAD2 := Lib.hid (fun (k : Nat) (y a b : ByteArray) (hy : (splitS 32 s)[k]? = some y) (h : splitS 43 y = [a, b]) (hn : okN a = false ∨ okN b = false) => rh_num H0.out hy h hn)
  obtain ⟨P, HP⟩ : ∃ P, Hid (splitS 32 s = P) := ⟨_, rfl⟩
  rw [HP.out] at hpl HPM KS HEND HBAD HBAD2
  obtain ⟨R, HRR⟩ : ∃ R, Hid (rhR s = R) := ⟨_, rfl⟩
  rw [HRR.out] at HEND HBAD HBAD2 ⊢
  obtain ⟨n, Hn⟩ : ∃ n, Hid (P.length = n) := ⟨_, rfl⟩
  rw [Hn.out] at hpl
  go_enter Tryd.func37, Tryd.ntmps37
  go_wp2_with (go_at_call 67; refine (KS.out _).mono ?_; rintro e w1 ⟨v1, rfl, o1, g1⟩)
  obtain ⟨A1, c1, rfl, hc1⟩ := own_sl o1
  obtain ⟨gW, rfl⟩ := own_head o1 (by rw [Hn.out]; omega)
  have OP := Lib.hid o1
  have OE1 := Lib.hid (own_G OE.out g1)
  have G1 := Lib.hid (GE.out.trans g1)
  have hgW := (o1.lt gW rfl)
  have hsz0 : (w.alloc (.cells #[] 54)).heap.size = w.heap.size + 1 := by simp
  rw [hsz0] at hgW OP
  clear o1 g1 KS hsz0 OE GE
  rw [Hn.out] at OP
  rw [Hn.out]
  clear hc1
  go_wp2
  go_loopw [4, 6] (fun v i wr => ∃ (k : Nat) (M : List SHold), k ≤ n ∧ i = .int .i64 (k : Int) ∧ M.length ≤ k ∧ Hid (v.ownBlock ≠ some gW) ∧ Hid (wr.ownsRow w.heap.size 54 2 v M.length (M.flatMap cHold)) ∧ Hid (wr.ownsRow (w.heap.size + 1) 9 1 (.slice (some ⟨gW, 0, none⟩) n c1) n (P.flatMap sv)) ∧ Hid (M.map (fun x => mkB (htOne x)) = P.take k) ∧ Hid (G w wr)) (fun _ i _ => n - (intOf i).toNat)
  case atStart => exact ⟨0, [], Nat.zero_le _, rfl, Nat.le_refl _, Lib.hid (by simp [Value.ownBlock]; omega), OE1, OP, Lib.hid rfl, G1⟩
  case round =>
    clear OE1 G1 OP
    obtain ⟨k, M, hk, rfl, hM, HNE, HO, OP, HMP, G0⟩ := hrel
    have hk0 : (0 : Int) ≤ (k : Int) := by omega
    have hszw := G0.out.size
    have hgw2 := (OP.out.lt gW rfl).2
    by_cases hlt : k < n
    · have hlt2 : (k : Int) < (n : Int) := by omega
      obtain ⟨y, hy⟩ : ∃ y, P[k]? = some y := ⟨_, List.getElem?_eq_getElem (by rw [Hn.out]; exact hlt)⟩
      have hcy := own_cellAt_mid OP.out (j := k) (u := .string y) (by rw [flat_sv, List.getElem?_map, hy]; rfl)
      have hys := HPM.out y (List.mem_of_getElem? hy)
      have HY := Lib.hid hy
      have KY := Lib.hid (fun (W : World) => l01Split_any y 43 43 rfl (by omega) W)
      clear hy
      by_cases h2 : (splitS 43 y).length = 2
      · obtain ⟨a, b, hab⟩ : ∃ a b, splitS 43 y = [a, b] := by
          rcases hq : splitS 43 y with _ | ⟨a, _ | ⟨b, _ | ⟨d, r⟩⟩⟩
          · rw [hq] at h2; simp at h2
          · rw [hq] at h2; simp at h2
          · exact ⟨a, b, rfl⟩
          · rw [hq] at h2; simp at h2
        have has := (splitS_mem (c := 43) (s := y) (x := a) (by rw [hab]; simp)).1
        have hbs := (splitS_mem (c := 43) (s := y) (x := b) (by rw [hab]; simp)).1
        have KA := Lib.hid (fun (W : World) => l01Number_any a (by omega) W)
        have KB := Lib.hid (fun (W : World) => l01Number_any b (by omega) W)
        have HST := Lib.hid (fun (h1 : okN a = true) (h2 : okN b = true) => rh_step HMP.out HY.out hab h1 h2)
        have HB1 := Lib.hid (fun (hn : okN a = false ∨ okN b = false) => HBAD.out k y HY.out)
        have HB2 := Lib.hid (fun (hn : okN a = false ∨ okN b = false) => HBAD2.out k y a b HY.out hab hn)
        rw [hab] at KY
        clear h2 hab hys HB1
        obtain ⟨na, HNA⟩ : ∃ x, Hid (valN a = x) := ⟨_, rfl⟩
        obtain ⟨nb, HNB⟩ : ∃ x, Hid (valN b = x) := ⟨_, rfl⟩
        rw [HNA.out] at KA HST
        rw [HNB.out] at KB HST
        have HPATH : ∀ (ba bb : Bool), okN a = ba → okN b = bb → True := fun _ _ _ _ => trivial
        clear HPATH
        cases hoa : okN a
        all_goals cases hob : okN b
        · have HS1 := Lib.hid (HB2.out (.inl hoa))
          rw [hoa] at KA
          rw [hob] at KB
          clear HST HB2 hoa hob
          go_wp2_with (first | (go_at_call 67; (with_reducible refine (KY.out _).mono ?_); rintro e w2 ⟨v2, rfl, o2, g2⟩; obtain ⟨A2, c2, rfl, hc2⟩ := own_sl o2; obtain ⟨gx, rfl⟩ := own_head o2 (by simp); have G2 := Lib.hid g2; have HO2 := Lib.hid (own_G HO.out g2); have OP2 := Lib.hid (own_G OP.out g2); have hx0 := own_cellAt_mid o2 (j := 0) (u := .string a) rfl; have hx1 := own_cellAt_mid o2 (j := 1) (u := .string b) rfl; have HX1 := Lib.hid hx1; clear o2 g2 hc2; simp only [List.length_cons, List.length_nil] ) | (go_at_call 68; (with_reducible refine (KA.out _).mono ?_); rintro e w3 ⟨rfl, g3⟩; have G3 := Lib.hid (G2.out.trans g3); have HO3 := Lib.hid (own_G HO2.out g3); have OP3 := Lib.hid (own_G OP2.out g3); have hy1 := g3.cell HX1.out; clear g3 hx0 hx1) | (go_at_call 68; (with_reducible refine (KB.out _).mono ?_); rintro e w4 ⟨rfl, g4⟩; have G4 := Lib.hid (G3.out.trans g4); have HO4 := Lib.hid (own_G HO3.out g4); have OP4 := Lib.hid (own_G OP3.out g4); clear g4 hy1) | (at_builtin; refine wpList_append_own_at _ rfl (.tmp 52) (.tmp 56) 25 rfl w.heap.size 54 i0 (.agg #[.int .i64 0, .int .i64 0]) 2 16 Tryd.underlying25 HI.out.1 HI.out.2.1 HI.out.2.2.1 HI.out.2.2.2 rfl (by decide) _ M.length _ rfl (HO4.out.alloc _) ⟨w4.heap.size, 0, none⟩ 1 1 (cHold ⟨na, nb⟩) rfl rfl (block_news _ (cHold ⟨na, nb⟩) _) (cHold_one _) ?c1 ?c2 ?c3 ?_))
          go_ret2
          exact resb_nil HS1.out (G0.out.trans G4.out)
        · have HS1 := Lib.hid (HB2.out (.inl hoa))
          rw [hoa] at KA
          rw [hob] at KB
          clear HST HB2 hoa hob
          go_wp2_with (first | (go_at_call 67; (with_reducible refine (KY.out _).mono ?_); rintro e w2 ⟨v2, rfl, o2, g2⟩; obtain ⟨A2, c2, rfl, hc2⟩ := own_sl o2; obtain ⟨gx, rfl⟩ := own_head o2 (by simp); have G2 := Lib.hid g2; have HO2 := Lib.hid (own_G HO.out g2); have OP2 := Lib.hid (own_G OP.out g2); have hx0 := own_cellAt_mid o2 (j := 0) (u := .string a) rfl; have hx1 := own_cellAt_mid o2 (j := 1) (u := .string b) rfl; have HX1 := Lib.hid hx1; clear o2 g2 hc2; simp only [List.length_cons, List.length_nil] ) | (go_at_call 68; (with_reducible refine (KA.out _).mono ?_); rintro e w3 ⟨rfl, g3⟩; have G3 := Lib.hid (G2.out.trans g3); have HO3 := Lib.hid (own_G HO2.out g3); have OP3 := Lib.hid (own_G OP2.out g3); have hy1 := g3.cell HX1.out; clear g3 hx0 hx1) | (go_at_call 68; (with_reducible refine (KB.out _).mono ?_); rintro e w4 ⟨rfl, g4⟩; have G4 := Lib.hid (G3.out.trans g4); have HO4 := Lib.hid (own_G HO3.out g4); have OP4 := Lib.hid (own_G OP3.out g4); clear g4 hy1) | (at_builtin; refine wpList_append_own_at _ rfl (.tmp 52) (.tmp 56) 25 rfl w.heap.size 54 i0 (.agg #[.int .i64 0, .int .i64 0]) 2 16 Tryd.underlying25 HI.out.1 HI.out.2.1 HI.out.2.2.1 HI.out.2.2.2 rfl (by decide) _ M.length _ rfl (HO4.out.alloc _) ⟨w4.heap.size, 0, none⟩ 1 1 (cHold ⟨na, nb⟩) rfl rfl (block_news _ (cHold ⟨na, nb⟩) _) (cHold_one _) ?c1 ?c2 ?c3 ?_))
          go_ret2
          exact resb_nil HS1.out (G0.out.trans G4.out)
        · have HS1 := Lib.hid (HB2.out (.inr hob))
          rw [hoa] at KA
          rw [hob] at KB
          clear HST HB2 hoa hob
          go_wp2_with (first | (go_at_call 67; (with_reducible refine (KY.out _).mono ?_); rintro e w2 ⟨v2, rfl, o2, g2⟩; obtain ⟨A2, c2, rfl, hc2⟩ := own_sl o2; obtain ⟨gx, rfl⟩ := own_head o2 (by simp); have G2 := Lib.hid g2; have HO2 := Lib.hid (own_G HO.out g2); have OP2 := Lib.hid (own_G OP.out g2); have hx0 := own_cellAt_mid o2 (j := 0) (u := .string a) rfl; have hx1 := own_cellAt_mid o2 (j := 1) (u := .string b) rfl; have HX1 := Lib.hid hx1; clear o2 g2 hc2; simp only [List.length_cons, List.length_nil] ) | (go_at_call 68; (with_reducible refine (KA.out _).mono ?_); rintro e w3 ⟨rfl, g3⟩; have G3 := Lib.hid (G2.out.trans g3); have HO3 := Lib.hid (own_G HO2.out g3); have OP3 := Lib.hid (own_G OP2.out g3); have hy1 := g3.cell HX1.out; clear g3 hx0 hx1) | (go_at_call 68; (with_reducible refine (KB.out _).mono ?_); rintro e w4 ⟨rfl, g4⟩; have G4 := Lib.hid (G3.out.trans g4); have HO4 := Lib.hid (own_G HO3.out g4); have OP4 := Lib.hid (own_G OP3.out g4); clear g4 hy1) | (at_builtin; refine wpList_append_own_at _ rfl (.tmp 52) (.tmp 56) 25 rfl w.heap.size 54 i0 (.agg #[.int .i64 0, .int .i64 0]) 2 16 Tryd.underlying25 HI.out.1 HI.out.2.1 HI.out.2.2.1 HI.out.2.2.2 rfl (by decide) _ M.length _ rfl (HO4.out.alloc _) ⟨w4.heap.size, 0, none⟩ 1 1 (cHold ⟨na, nb⟩) rfl rfl (block_news _ (cHold ⟨na, nb⟩) _) (cHold_one _) ?c1 ?c2 ?c3 ?_))
          go_ret2
          exact resb_nil HS1.out (G0.out.trans G4.out)
        · have HS1 := Lib.hid (HST.out hoa hob)
          rw [hoa] at KA
          rw [hob] at KB
          clear HST HB2 hoa hob
          go_wp2_with (first | (go_at_call 67; (with_reducible refine (KY.out _).mono ?_); rintro e w2 ⟨v2, rfl, o2, g2⟩; obtain ⟨A2, c2, rfl, hc2⟩ := own_sl o2; obtain ⟨gx, rfl⟩ := own_head o2 (by simp); have G2 := Lib.hid g2; have HO2 := Lib.hid (own_G HO.out g2); have OP2 := Lib.hid (own_G OP.out g2); have hx0 := own_cellAt_mid o2 (j := 0) (u := .string a) rfl; have hx1 := own_cellAt_mid o2 (j := 1) (u := .string b) rfl; have HX1 := Lib.hid hx1; clear o2 g2 hc2; simp only [List.length_cons, List.length_nil] ) | (go_at_call 68; (with_reducible refine (KA.out _).mono ?_); rintro e w3 ⟨rfl, g3⟩; have G3 := Lib.hid (G2.out.trans g3); have HO3 := Lib.hid (own_G HO2.out g3); have OP3 := Lib.hid (own_G OP2.out g3); have hy1 := g3.cell HX1.out; clear g3 hx0 hx1) | (go_at_call 68; (with_reducible refine (KB.out _).mono ?_); rintro e w4 ⟨rfl, g4⟩; have G4 := Lib.hid (G3.out.trans g4); have HO4 := Lib.hid (own_G HO3.out g4); have OP4 := Lib.hid (own_G OP3.out g4); clear g4 hy1) | (at_builtin; refine wpList_append_own_at _ rfl (.tmp 52) (.tmp 56) 25 rfl w.heap.size 54 i0 (.agg #[.int .i64 0, .int .i64 0]) 2 16 Tryd.underlying25 HI.out.1 HI.out.2.1 HI.out.2.2.1 HI.out.2.2.2 rfl (by decide) _ M.length _ rfl (HO4.out.alloc _) ⟨w4.heap.size, 0, none⟩ 1 1 (cHold ⟨na, nb⟩) rfl rfl (block_news _ (cHold ⟨na, nb⟩) _) (cHold_one _) ?c1 ?c2 ?c3 ?_))
          case c1 => unfold maxLen; omega
          case c2 => omega
          case c3 => have := G4.out.size; simp; omega
          intro v' w5 hown hgrow _ hbl
          have hs4 := G4.out.size
          have gx := (G.refl w4).alloc (.cells (cHold ⟨na, nb⟩).toArray 54)
          have O5 := Lib.hid (show w5.ownsRow w.heap.size 54 2 v' (M ++ [(⟨na, nb⟩ : SHold)]).length ((M ++ [(⟨na, nb⟩ : SHold)]).flatMap cHold) by rw [List.length_append, List.flatMap_append]; simpa using hown)
          have G5 := Lib.hid (((G0.out.trans G4.out).trans gx).grown hgrow (own_block_of HO4.out))
          have OP5 := Lib.hid (own_Gx (own_G OP4.out gx) hgrow (.inr (fun e => HNE.out e.symm)))
          have HNE5 := Lib.hid (show v'.ownBlock ≠ some gW from fun e => by
            rcases hbl with h | h
            · exact HNE.out (h.symm.trans e)
            · rw [h] at e
              simp at e
              omega)
          clear hown hgrow gx hbl
          go_wp2
          go_roundw
          case rel => exact ⟨k + 1, M ++ [(⟨na, nb⟩ : SHold)], by omega, by go_num, by simp; omega, HNE5, O5, OP5, HS1, G5⟩
          case measure => first | (simp [intOf]; done) | (simp [intOf]; omega)
      · have HB := Lib.hid (HBAD.out k y HY.out h2)
        have hd2 : (((splitS 43 y).length : Int) == 2) = false := by rw [beq_eq_false_iff_ne]; omega
        obtain ⟨Q, HQ⟩ : ∃ Q, Hid (splitS 43 y = Q) := ⟨_, rfl⟩
        rw [HQ.out] at KY hd2
        obtain ⟨q, Hq⟩ : ∃ q, Hid (Q.length = q) := ⟨_, rfl⟩
        rw [Hq.out] at hd2
        clear h2 hys
        go_wp2_with (go_at_call 67; (with_reducible refine (KY.out _).mono ?_); rintro e w2 ⟨v2, rfl, o2, g2⟩; obtain ⟨A2, c2, rfl, hc2⟩ := own_sl o2; have G2 := Lib.hid g2; clear o2 g2 hc2; rw [Hq.out])
        go_ret2
        exact resb_nil HB.out (G0.out.trans G2.out)
    · obtain rfl : k = n := by omega
      have HF := Lib.hid (HEND.out M (by rw [HMP.out]; exact List.take_of_length_le (by rw [Hn.out]; omega)))
      obtain ⟨A0, c0, rfl, _⟩ := own_sl HO.out
      have KV := Lib.hid (l18Holds_any A0 M.length c0 M wr (rd_own (by decide) cHold_len HO.out) rfl (by omega))
      cases hv : vhs M
      · have HF2 := Lib.hid (show R = ([], false) by rw [HF.out, if_neg (by rw [hv]; simp)])
        rw [hv] at KV
        clear hv
        go_wp2_with (go_at_call 30; (with_reducible refine KV.out.mono ?_); rintro e w2 ⟨rfl, g2⟩; have G2 := Lib.hid (G0.out.trans g2); clear g2)
        go_ret2
        exact resb_nil HF2.out G2.out
      · have HF2 := Lib.hid (show R = (M, true) by rw [HF.out, if_pos hv])
        rw [hv] at KV
        clear hv
        go_wp2_with (go_at_call 30; (with_reducible refine KV.out.mono ?_); rintro e w2 ⟨rfl, g2⟩; have G2 := Lib.hid (G0.out.trans g2); have HO2 := Lib.hid (own_G HO.out g2); clear g2)
        go_ret2
        exact resb_own HF2.out rfl HO2.out G2.out

set_option maxRecDepth 20000 in
set_option maxHeartbeats 4000000 in
theorem sReadHolds_any (s : ByteArray) (w : World) (hs : s.size ≤ 1048576) :
    Calls Tryd.prog 12 #[.string s] w (ResB w 54 2 cHold (rhR s)) := by
  have K := Lib.hid (l18Read_any s hs w)
  clear hs
  go_enter Tryd.func12, Tryd.ntmps12
  go_wp2_with (go_at_call 37; (with_reducible refine K.out.mono ?_); rintro e w2 ⟨A, c, rfl, g2, o2⟩; have G2 := Lib.hid g2; have O2 := Lib.hid o2; clear g2 o2)
  go_ret2
  exact ⟨A, c, rfl, G2.out, O2.out⟩
attribute [local go_sem ↓] Go.wp_at_zero Go.wp_at_succ
set_option maxRecDepth 20000 in
set_option maxHeartbeats 4000000 in
theorem iReadHolds_any (s : ByteArray) (w : World) (hs : s.size ≤ 1048576) (hE : Env w) :
    Calls Tryd.prog 13 #[.string s] w (ResB w 54 2 cHold (rhR s)) := by
  obtain ⟨i0, hi, hz0, hz1, hz2⟩ := info_parts infoHold
  have HI := Lib.hid (And.intro hi (And.intro hz0 (And.intro hz1 hz2)))
  clear hi hz0 hz1 hz2
  by_cases h0 : s = mkB [45]
  · subst h0
    have hd := dash_yes
    go_enter Tryd.func13, Tryd.ntmps13
    go_wp2
    go_ret2
    exact resb_nil rh_dash (G.refl _)
  have hd := dash_no h0
  have HE := Lib.hid hE
  have hwl : (wordsS s).length ≤ s.size + 1 := Nat.le_trans (List.length_filter_le _ _) (splitS_len 32 s).2
  have HPM := Lib.hid (fun (y : ByteArray) (hy : y ∈ wordsS s) => (splitS_mem (List.mem_filter.1 hy).1).1)
  have KS := Lib.hid (SplitWords_any s (by omega) w hE)
  have HEND := Lib.hid (fun (M : List SHold) (h : (wordsS s).map rdW = M) => rh_endW h0 h)
  have HBAD := Lib.hid (fun (k : Nat) (y : ByteArray) (hy : (wordsS s)[k]? = some y) (h : okW y = false) => rh_badW h0 hy h)
  obtain ⟨P, HP⟩ : ∃ P, Hid (wordsS s = P) := ⟨_, rfl⟩
  rw [HP.out] at hwl HPM KS HEND HBAD
  obtain ⟨R, HRR⟩ : ∃ R, Hid (rhR s = R) := ⟨_, rfl⟩
  rw [HRR.out] at HEND HBAD ⊢
  obtain ⟨n, Hn⟩ : ∃ n, Hid (P.length = n) := ⟨_, rfl⟩
  rw [Hn.out] at hwl
  clear h0 hE
  go_enter Tryd.func13, Tryd.ntmps13
  go_wp2_with (go_at_call 38; (with_reducible refine KS.out.mono ?_); rintro e w1 ⟨v1, rfl, o1, g1⟩; obtain ⟨A1, c1, rfl, hc1⟩ := own_sl o1; have RP := Lib.hid (rd_strs o1); have G1 := Lib.hid g1; clear o1 g1 hc1; rw [Hn.out])
  clear KS
  go_loopw [4, 17] (fun v i wr => ∃ (k : Nat) (M : List SHold), k ≤ n ∧ i = .int .i64 (k : Int) ∧ M.length ≤ k ∧ Hid (wr.ownsRow w1.heap.size 54 2 v M.length (M.flatMap cHold)) ∧ Hid ((P.take k).map rdW = M) ∧ Hid (G w1 wr)) (fun _ i _ => n - (intOf i).toNat)
  case atStart => exact ⟨0, [], Nat.zero_le _, rfl, Nat.le_refl _, Lib.hid (World.ownsRow_nil _ _ _ _), Lib.hid rfl, Lib.hid (G.refl _)⟩
  case round =>
    obtain ⟨k, M, hk, rfl, hM, HO, HMP, G0⟩ := hrel
    obtain ⟨A0, c0, rfl, _⟩ := own_sl HO.out
    have hk0 : (0 : Int) ≤ (k : Int) := by omega
    have hszw := G0.out.size
    have hszw1 := G1.out.size
    by_cases hlt : k < n
    · have hlt2 : (k : Int) < (n : Int) := by omega
      obtain ⟨b, o, y, rfl, hy, hcy⟩ := (RP.out.G G0.out).str (k := k) (by rw [Hn.out]; exact hlt)
      have hys := HPM.out y (List.mem_of_getElem? hy)
      have HST := Lib.hid (show (P.take (k + 1)).map rdW = M ++ [rdW y] by rw [take_snoc hy, List.map_append, HMP.out]; rfl)
      have HB := Lib.hid (fun (h : okW y = false) => HBAD.out k y hy h)
      obtain ⟨m, hm⟩ := (HE.out.G (G1.out.trans G0.out)).most
      have hcs := cut_size 43 y
      have KC := Lib.hid (Tryd.strings_Cut y ⟨#[43]⟩ m wr (by omega) hm)
      rw [show (⟨(Lib.cut y.data.toList (ByteArray.mk #[43]).data.toList).1.toArray⟩ : ByteArray) = cutA 43 y from rfl, show (⟨(Lib.cut y.data.toList (ByteArray.mk #[43]).data.toList).2.1.toArray⟩ : ByteArray) = cutB 43 y from rfl] at KC
      obtain ⟨f, HFF⟩ : ∃ f, Hid ((Lib.cut y.data.toList (ByteArray.mk #[43]).data.toList).2.2 = f) := ⟨_, rfl⟩
      rw [HFF.out] at KC
      have HW := Lib.hid (show okW y = [cutA 43 y, cutB 43 y].all okN from rfl)
      have HV := Lib.hid (show rdW y = ⟨valN (cutA 43 y), valN (cutB 43 y)⟩ from rfl)
      obtain ⟨a, HA⟩ : ∃ a, Hid (cutA 43 y = a) := ⟨_, rfl⟩
      obtain ⟨b2, HB2⟩ : ∃ a, Hid (cutB 43 y = a) := ⟨_, rfl⟩
      rw [HA.out] at KC HW HV hcs
      rw [HB2.out] at KC HW HV hcs
      have KN := Lib.hid (fun (d : Nat) (W : World) (hW : wr.drewN d = W) => readNumbers_any (some ⟨W.heap.size, 0, none⟩) 2 2 [a, b2] (W.alloc (.cells ([a, b2].map Value.string).toArray 9)) (rd_lst W [a, b2] _) rfl (by omega) (fun x hx => by
        simp only [List.mem_cons, List.mem_nil_iff, or_false] at hx
        rcases hx with rfl | rfl <;> omega) ((HE.out.G (G1.out.trans G0.out)).G (((G.refl wr).drewN d).trans (by rw [hW]; exact (G.refl W).alloc _))))
      clear hy hm
      cases hok : okW y
      · have HF := Lib.hid (HB.out hok)
        have HNR := Lib.hid (show numsR [a, b2] = ([], false) by unfold numsR; rw [← HW.out, hok]; rfl)
        rw [HNR.out] at KN
        clear hok HB HST
        go_wp2_with (first | (go_at_call 39; (with_reducible refine KC.out.mono ?_); rintro e w2 ⟨rfl, d, rfl⟩) | (go_at_call 40; refine (KN.out d _ rfl).mono ?_; rintro e w3 ⟨A3, c3, rfl, g3, o3⟩; have G3 := Lib.hid ((((G.refl wr).drewN d).alloc (.cells ([a, b2].map Value.string).toArray 9)).trans g3); clear g3 o3))
        go_ret2
        exact resb_nil HF.out (G1.out.trans (G0.out.trans G3.out))
      · have HNR := Lib.hid (show numsR [a, b2] = ([valN a, valN b2], true) by unfold numsR; rw [← HW.out, hok]; rfl)
        rw [HNR.out] at KN
        rw [HV.out] at HST
        obtain ⟨na, HNA⟩ : ∃ x, Hid (valN a = x) := ⟨_, rfl⟩
        obtain ⟨nb, HNB⟩ : ∃ x, Hid (valN b2 = x) := ⟨_, rfl⟩
        rw [HNA.out, HNB.out] at KN HST
        clear hok HB HNR HV HW
        go_wp2_with (first | (go_at_call 39; (with_reducible refine KC.out.mono ?_); rintro e w2 ⟨rfl, d, rfl⟩) | (go_at_call 40; refine (KN.out d _ rfl).mono ?_; rintro e w3 ⟨A3, c3, rfl, g3, o3⟩; have G3 := Lib.hid ((((G.refl wr).drewN d).alloc (.cells ([a, b2].map Value.string).toArray 9)).trans g3); have HO3 := Lib.hid (own_G HO.out G3.out); obtain ⟨g, rfl⟩ := own_head o3 (by simp); have hgl := (o3.lt g rfl).1; have hn0 := own_cellAt_mid o3 (j := 0) (u := .int .i64 na) rfl; have hn1 := own_cellAt_mid o3 (j := 1) (u := .int .i64 nb) rfl; have HN0 := Lib.hid hn0; have HN1 := Lib.hid hn1; clear g3 o3; simp only [List.length_cons, List.length_nil]))
        obtain ⟨wo, rfl⟩ : ∃ wo : World, wo = w3 := ⟨_, rfl⟩
        have HNE := Lib.hid (show (Value.slice A0 M.length c0).ownBlock ≠ some g from fun e => by
          have h1 := (HO.out.lt g e).2
          simp at hgl
          omega)
        clear hgl
        have hs3 := G3.out.size
        go_region_held3 (fun w' => w'.cell? ⟨g, 0, none⟩ = some (.int .i64 na) ∧ w'.cell? ⟨g, 1, none⟩ = some (.int .i64 nb)) (first | go_keep | exact ⟨Gx.cell G9.out HN0.out (fun e => HNE.out e.symm), Gx.cell G9.out HN1.out (fun e => HNE.out e.symm)⟩) (first | (refine step_append_lies _ (by rfl) (.tmp 36) (.tmp 44) 25 (by rfl) w1.heap.size 54 i0 (.agg #[.int .i64 0, .int .i64 0]) 2 16 Tryd.underlying25 HI.out.1 HI.out.2.1 HI.out.2.2.1 HI.out.2.2.2 rfl (by decide) _ M.length _ (by rfl) (World.ownsRow.alloc (World.ownsRow.drew HO3.out) _) ⟨wo.heap.size, 0, none⟩ 1 1 (cHold ⟨na, nb⟩) (by rfl) rfl (block_news _ (cHold ⟨na, nb⟩) _) (cHold_one _) (by decide) (by unfold maxLen; omega) (by omega) (by simp; omega) (wo.heap.size + 1) (by simp) ?_; intro g5 cap w5 hown' hgrow _ _; have HO5 := Lib.hid hown'; have G9 := Lib.hid (Gx.trans (Gx.of_G ((G.refl wo).drew.alloc (.cells (cHold ⟨na, nb⟩).toArray 54)) _) hgrow); clear hown' hgrow))
        go_wp2
        go_roundw
        case rel => exact ⟨k + 1, M ++ [(⟨na, nb⟩ : SHold)], by omega, by go_num, by simp; omega, Lib.hid (by rw [List.length_append, List.flatMap_append]; simpa using HO5.out), HST, Lib.hid ((G0.out.trans G3.out).grown G9.out (own_block_of HO3.out))⟩
        case measure => first | (simp [intOf]; done) | (simp [intOf]; omega)
    · obtain rfl : k = n := by omega
      have HF := Lib.hid (HEND.out M (by rw [← HMP.out]; exact congrArg _ (List.take_of_length_le (by rw [Hn.out]; omega)).symm))
      have RM := Lib.hid (rd_own (by decide) cHold_len HO.out)
      have KV := Lib.hid (ValidHolds_any A0 M.length c0 M wr RM.out rfl (by omega))
      have KT := Lib.hid (fun (W : World) (g : G wr W) => iHoldsText_any A0 M.length c0 M W (RM.out.G g) rfl (by omega) (HE.out.G ((G1.out.trans G0.out).trans g)).tab)
      cases hv : vhs M
      · have HF2 := Lib.hid (show R = ([], false) by rw [HF.out, if_neg (by rw [hv]; simp)])
        rw [hv] at KV
        clear hv
        go_wp2_with (go_at_call 33; (with_reducible refine KV.out.mono ?_); rintro e w2 ⟨rfl, g2⟩; have G2 := Lib.hid (G0.out.trans g2); clear g2)
        go_ret2
        exact resb_nil HF2.out (G1.out.trans G2.out)
      · have HT := Lib.hid (show htR M = htB M by unfold htR; rw [if_pos hv])
        rw [HT.out] at KT
        rw [hv] at KV
        by_cases he : htB M = s
        · have HF2 := Lib.hid (show R = (M, true) by rw [HF.out, if_pos ⟨hv, he⟩])
          have hes : (s.toList == s.toList) = true := by simp
          rw [he] at KT
          clear hv he
          go_wp2_with (first | (go_at_call 33; (with_reducible refine KV.out.mono ?_); rintro e w2 ⟨rfl, g2⟩; have G2 := Lib.hid g2; have HO2 := Lib.hid (own_G HO.out g2); clear g2) | (go_at_call 10; (with_reducible refine (KT.out _ G2.out).mono ?_); rintro e w3 ⟨rfl, g3⟩; have G3 := Lib.hid (G2.out.trans g3); have HO3 := Lib.hid (own_G HO2.out g3); clear g3))
          go_ret2
          exact resb_own HF2.out rfl (own_up HO3.out G1.out.size) (G1.out.trans (G0.out.trans G3.out))
        · have HF2 := Lib.hid (show R = ([], false) by rw [HF.out, if_neg (fun h => he h.2)])
          have hes : ((htB M).toList == s.toList) = false := by
            simp only [beq_eq_false_iff_ne, ne_eq]
            exact fun e => he (by rw [ByteArray.toList_eq, ByteArray.toList_eq] at e; rw [← mkB_of (htB M), e, mkB_of])
          obtain ⟨t, HTT⟩ : ∃ t, Hid (htB M = t) := ⟨_, rfl⟩
          rw [HTT.out] at KT hes
          clear hv he
          go_wp2_with (first | (go_at_call 33; (with_reducible refine KV.out.mono ?_); rintro e w2 ⟨rfl, g2⟩; have G2 := Lib.hid g2; clear g2) | (go_at_call 10; (with_reducible refine (KT.out _ G2.out).mono ?_); rintro e w3 ⟨rfl, g3⟩; have G3 := Lib.hid (G2.out.trans g3); clear g3))
          go_ret2
          exact resb_nil HF2.out (G1.out.trans (G0.out.trans G3.out))
end Go.Proofs.YtcoaldhmofdfgaaDoor
