/-
  Walks: what the law FnUniverses draws.
-/
import Derived.Test.YtckenipmebeopaaDrawUni
import Derived.Test.YtckenipmebeopaaRowsW
import Derived.Deep.AppendLies
namespace Go.Proofs.Ytckenipmebeopaa
open Go.RowKit

theorem slc_one (A : Option Addr) (n c : Nat) : ∀ u ∈ [Value.slice A n c], u.oneCell' = true := by
  intro u hu
  simp only [List.mem_singleton] at hu
  subst hu
  rfl
section
variable {w w' : World} {B : Nat} {TS TI : TypeId} {v : Value} {hs : List Value} {M : List (List Int)}
/-- One row more, appended; it lies behind all the others. -/
theorem OwnR.snoc2 {w2 : World} {hi : Nat} {hn : Value} {r : List Int} {g cap n : Nat} (h : OwnR w' B TS TI v hs M) (hin : InR B hi v hs) (hB : B ≤ hi) (hr : w'.ownsRow hi TI 1 hn r.length (r.flatMap iv)) (hl : M.length = n)
    (hown : w2.ownsRow B TS 1 (.slice (some ⟨g, 0, none⟩) (n + 1) cap) (n + 1) (hs ++ [hn])) (hgrow : w'.grownBy w2 v.ownBlock) (hlies : v.ownBlock = some g ∨ w'.heap.size ≤ g) :
    OwnR w2 B TS TI (.slice (some ⟨g, 0, none⟩) (n + 1) cap) (hs ++ [hn]) (M ++ [r]) := by
  have hin0 := h.inR
  have hlen := h.len
  have at_ : ∀ {α : Type} (L : List α) (x : α) (i : Nat) (y : α), (L ++ [x])[i]? = some y → (i < L.length ∧ L[i]? = some y) ∨ (i = L.length ∧ y = x) := fun L x i y e => by
    rcases Nat.lt_or_ge i L.length with hi | hi
    · rw [List.getElem?_append_left hi] at e; exact .inl ⟨hi, e⟩
    · rw [List.getElem?_append_right hi] at e
      match q : i - L.length, e with
      | 0, e => simp only [List.getElem?_cons_zero, Option.some.injEq] at e; exact .inr ⟨by omega, e.symm⟩
      | q + 1, e => simp at e
  have hnv : hn.ownBlock = none ∨ hn.ownBlock ≠ v.ownBlock := by
    cases e : hn.ownBlock with
    | none => exact .inl rfl
    | some y => right; intro e2; have := (hr.lt y e).1; have := (hin.1 y e2.symm).2; omega
  refine ⟨by simp [hlen], by rw [List.length_append, hl]; exact hown, fun i x s h1 h2 => ?_, fun i x h1 => ?_, fun i j x y hij h1 h2 => ?_⟩
  · rcases at_ _ _ _ _ h1 with ⟨hi, e1⟩ | ⟨hi, rfl⟩
    · rcases at_ _ _ _ _ h2 with ⟨_, e2⟩ | ⟨h2, _⟩
      · exact own_Gx (g := v.ownBlock) (h.row i x s e1 e2) hgrow (h.top i x e1)
      · omega
    · rcases at_ _ _ _ _ h2 with ⟨h2, _⟩ | ⟨_, rfl⟩
      · omega
      · exact World.ownsRow.mono (own_Gx (g := v.ownBlock) hr hgrow hnv) hB
  · show x.ownBlock = none ∨ x.ownBlock ≠ some g
    rcases at_ _ _ _ _ h1 with ⟨_, e1⟩ | ⟨_, rfl⟩
    · cases e : x.ownBlock with
      | none => exact .inl rfl
      | some y =>
        right; intro e2; cases e2
        have h3 := (hin0.2 i x g e1 e).2
        rcases hlies with h4 | h4
        · rcases h.top i x e1 with h5 | h5
          · rw [e] at h5; cases h5
          · exact h5 (e.trans h4.symm)
        · omega
    · cases e : x.ownBlock with
      | none => exact .inl rfl
      | some y =>
        right; intro e2; cases e2
        have h3 := hr.lt g e
        rcases hlies with h4 | h4
        · have := (hin.1 g h4).2; omega
        · omega
  · rcases at_ _ _ _ _ h1 with ⟨_, e1⟩ | ⟨hi, rfl⟩
    · rcases at_ _ _ _ _ h2 with ⟨_, e2⟩ | ⟨_, rfl⟩
      · exact h.part i j x y hij e1 e2
      · cases e : x.ownBlock with
        | none => exact .inl rfl
        | some z => right; intro e2; have := (hin.2 i x z e1 e).2; have := (hr.lt z e2.symm).1; omega
    · rcases at_ _ _ _ _ h2 with ⟨_, e2⟩ | ⟨hj, _⟩
      · cases e : x.ownBlock with
        | none => exact .inl rfl
        | some z => right; intro e3; have := (hin.2 j y z e2 e3.symm).2; have := (hr.lt z e).1; omega
      · omega
/-- The first row got one number more; its header is stored anew. -/
theorem RdR.first {wa wb : World} {g n c g' cap' n' B' : Nat} {hv : Value} {r' : List Int} (h : OwnR wa B TS TI (.slice (some ⟨g, 0, none⟩) n c) hs M) (hn : M.length = n) (h0 : hs[0]? = some hv)
    (hgrow : wa.grownBy wb hv.ownBlock) (hown : wb.ownsRow B' TI 1 (.slice (some ⟨g', 0, none⟩) n' cap') n' (r'.flatMap iv)) (hl : r'.length = n') (hc : n' ≤ cap') (hlies : hv.ownBlock = some g' ∨ wa.heap.size ≤ g') {s : Nat} (hsB : s < B) (hsB' : s < B') {wz : World} (hz : Gx (some s) (wb.setCell ⟨g, 0, none⟩ (.slice (some ⟨g', 0, none⟩) n' cap')) wz) :
    RdR wz (some ⟨g, 0, none⟩) (M.set 0 r') := fun _ => by
  have htop := h.top 0 hv h0
  have hin := h.inR
  have hg := hin.1 g rfl
  have hvg : hv.ownBlock ≠ some g := by
    rcases htop with e | e
    · rw [e]; simp
    · exact e
  have hO := own_Gx (g := hv.ownBlock) h.own hgrow (.inr (fun e => hvg e.symm))
  have hg' : g' ≠ g := by
    rintro rfl
    rcases hlies with e | e
    · exact hvg e
    · omega
  refine ⟨g, 0, rfl, fun i r hr => ?_⟩
  rw [hn] at hO
  have hS := World.ownsRow.stored hO 0 (.slice (some ⟨g', 0, none⟩) n' cap')
  have hil : i < M.length := by have := (List.getElem?_eq_some_iff.1 hr).1; simpa using this
  have hsl : hs.length = M.length := h.len
  by_cases hi : i = 0
  · subst hi
    rw [List.getElem?_set_self hil] at hr
    cases hr
    refine ⟨some ⟨g', 0, none⟩, cap', by omega, ?_, ?_⟩
    · rw [hl]
      exact own_cellAt_mid (own_src hS.1 hsB hz) (by rw [List.getElem?_set_self (by omega)])
    · exact rd_ints (own_src (own_Gx hown hS.2 (.inr (by simp [Value.ownBlock]; exact hg'))) hsB' hz)
  · rw [List.getElem?_set_ne (by omega)] at hr
    have hx : hs[i]? = some (hs[i]'(by omega)) := List.getElem?_eq_getElem (by omega)
    have hrow := h.row i _ r hx hr
    obtain ⟨Ai, ci, e, hle⟩ := own_slice hrow
    refine ⟨Ai, ci, hle, ?_, ?_⟩
    · have := own_cellAt_mid (own_src hS.1 hsB hz) (j := i) (u := hs[i]'(by omega)) (by rw [List.getElem?_set_ne (by omega)]; exact hx)
      rw [e] at this
      rw [Nat.zero_add]
      exact this
    · have h1 := own_Gx (g := hv.ownBlock) hrow hgrow (h.part i 0 _ hv hi hx h0)
      have h2 := own_src (own_Gx h1 hS.2 (h.top i _ hx)) hsB hz
      rw [e] at h2
      exact rd_ints h2
end

set_option maxRecDepth 20000 in
set_option maxHeartbeats 4000000 in
theorem DrawUniverseLevels_any (A : Option Addr) (n c : Nat) (L : List Int) (w : World) (h : Code w A n L) (hA : ∀ a, A = some a → L ≠ [] → a.block < w.heap.size) :
    Calls Try.prog 6 #[.slice A n c] w fun e w' => ∃ (B : Option Addr) (cb : Nat) (M : List SFixture) (B2 : Option Addr) (cb2 : Nat) (Z : List (List Int)) (u : Int), e = .returned (.tuple #[.slice B M.length cb, .slice B2 Z.length cb2, .int .i64 u]) ∧ M.length ≤ 20 ∧ M.length ≤ cb ∧ (∀ x ∈ M, WfFixture x) ∧ Z.length ≤ 20 ∧ (∀ r ∈ Z, r.length ≤ 71) ∧ G w w' ∧ w'.ownsRow w.heap.size 34 4 (.slice B M.length cb) M.length (M.flatMap cFixture) ∧ RdR w' B2 Z := by
  have K := Lib.hid (l00From_any A n c L w h hA)
  obtain ⟨i0, hi, hz0, hz1, hz2⟩ := info_parts infoInt
  have HI := Lib.hid (And.intro hi (And.intro hz0 (And.intro hz1 hz2)))
  clear hi hz0 hz1 hz2
  obtain ⟨i1, hi, hz0, hz1, hz2⟩ := info_parts infoRow
  have HJ := Lib.hid (And.intro hi (And.intro hz0 (And.intro hz1 hz2)))
  clear hi hz0 hz1 hz2
  clear h hA
  go_enter Try.func6, Try.ntmps6
  go_wp2_with fail
  refine K.out.mono ?_
  rintro e w1 ⟨rfl, g1, hs1, h1⟩
  have G1 := Lib.hid g1
  have H1 := Lib.hid h1
  obtain ⟨s, HS⟩ : ∃ s, Hid (w.heap.size = s) := ⟨_, rfl⟩
  have hsw : w.heap.size ≤ s := by rw [← HS.out]; (first | exact Nat.le_refl _ | simp)
  rw [HS.out] at H1 hs1
  rw [HS.out]
  clear g1 h1 K
  dsimp only
  go_wp2_with fail
  refine (l20Draw_any _ s A n c L 0 H1.out (by omega)).mono ?_
  rintro e w2 ⟨v, M, rfl, hM, hW, g2, h2, o2⟩
  obtain ⟨B, cb, rfl, hcb⟩ := own_lst2 o2
  have X2 := Lib.hid g2
  have H2 := Lib.hid h2
  have O2 := Lib.hid o2
  have HW := Lib.hid hW
  have hs2 := World.grownBy.size g2
  clear g2 h2 o2 hW
  dsimp only
  have OE := Lib.hid (OwnR.lit (TI := 2) (World.ownsRow_lit (e := 28) (base := w2.heap.size) (size := 1) w2 #[] 0 (Nat.le_refl _) (by unfold maxLen; omega) rfl))
  have XE := Lib.hid (Gx.of_G ((G.refl w2).alloc (.cells #[] 28)) (some s))
  have HE := Lib.hid (H2.out.g ((G.refl w2).alloc (.cells #[] 28)))
  go_wp2
  go_loopw [7, 8] (fun v i wr => ∃ (j : Nat) (A7 : Option Addr) (c7 : Nat) (hs : List Value) (Z : List (List Int)), j ≤ M.length ∧ i = .int .i64 j ∧ Z.length = j ∧ v = .slice A7 j c7 ∧ Hid (∀ r ∈ Z, r.length ≤ 70) ∧ Hid (OwnR wr w2.heap.size 28 2 (.slice A7 j c7) hs Z) ∧ Hid (Gx (some s) w2 wr) ∧ Hid (Src wr s A n c L (0 + 90 + 140 * j))) (fun _ i _ => M.length - (intOf i).toNat)
  case atStart => exact ⟨0, _, _, [], [], Nat.zero_le _, rfl, rfl, rfl, Lib.hid (fun x hx => by simp at hx), OE, XE, HE⟩
  case round =>
    clear OE XE HE H2
    obtain ⟨j, A7, c7, hs, Z, hj, rfl, hZ, rfl, HW2, HO, X0, HS2⟩ := hrel
    have hz := World.grownBy.size X0.out
    by_cases hlt : j < M.length
    · obtain ⟨b, o, x, rfl, hx, hc0, hc1, hc2, hc3⟩ := (rd_own (by decide) cFixture_len (own_src O2.out hs1 X0.out)).Fixture (k := j) hlt
      have HC3 := Lib.hid hc3
      clear hx hc0 hc1 hc2 hc3
      obtain ⟨wo, rfl⟩ : ∃ wo : World, wo = wr := ⟨_, rfl⟩
      have OI := Lib.hid (World.ownsRow_lit (e := 2) (base := wo.heap.size) (size := 1) wo #[] 0 (Nat.le_refl _) (by unfold maxLen; omega) rfl)
      have XI := Lib.hid (Gx.of_G ((G.refl wo).alloc (.cells #[] 2)) (some s))
      have HI2 := Lib.hid (HS2.out.g ((G.refl wo).alloc (.cells #[] 2)))
      go_wp2
      go_loopw [9, 10] (fun v i wr => ∃ (t : Nat) (r : List Int), t ≤ 70 ∧ i = .int .i64 t ∧ r.length = t ∧ Hid (wr.ownsRow wo.heap.size 2 1 v r.length (r.flatMap iv)) ∧ Hid (Gx (some s) wo wr) ∧ Hid (Src wr s A n c L (0 + 90 + 140 * j + 2 * t))) (fun _ i _ => 70 - (intOf i).toNat)
      case atStart => exact ⟨0, [], by omega, rfl, rfl, OI, XI, HI2⟩
      case round =>
        clear OI XI HI2
        obtain ⟨t, r, ht, rfl, hr, HR, X1, HS3⟩ := hrel
        subst hr
        have hz1 := World.grownBy.size X1.out
        have hc3 := Gx.cell (g := some s) X1.out HC3.out (fun e => by have := (O2.out.lt b rfl).1; simp at e; omega)
        by_cases hw : (r.length : Int) < x.Width
        · by_cases ht7 : r.length < 70
          · go_wp2_with fail
            refine (pick_any 256 _ s A n c L _ HS3.out (by omega) (by omega)).mono ?_
            rintro e w3 ⟨v3, ⟨y, hy0, hy1, rfl⟩, rfl, g3, h3⟩
            have X3 := Lib.hid (Gx.trans X1.out g3)
            have R3 := Lib.hid (own_src HR.out (by omega) g3)
            have H3 := Lib.hid h3
            clear g3 h3
            dsimp only
            go_wp2_with (at_builtin; refine wpList_append_own _ rfl (.tmp 36) (.tmp 39) 28 rfl wo.heap.size 2 i0 (.int .i64 0) 1 8 Try.underlying28 HI.out.1 HI.out.2.1 HI.out.2.2.1 HI.out.2.2.2 rfl (by decide) _ r.length _ rfl (R3.out.alloc _) ⟨w3.heap.size, 0, none⟩ 1 1 [.int .i64 y] rfl rfl (block_news _ [.int .i64 y] _) (int_oneCell y) ?c1 ?c2 ?c3 ?_)
            case c1 => unfold maxLen; omega
            case c2 => omega
            case c3 => have := World.grownBy.size X3.out; simp; omega
            intro v' w4 hown hgrow _
            have gx := (G.refl w3).alloc (.cells #[.int .i64 y] 2)
            have O4 := Lib.hid (show w4.ownsRow wo.heap.size 2 1 v' (r ++ [y]).length ((r ++ [y]).flatMap iv) by rw [List.length_append, List.flatMap_append]; simpa [iv] using hown)
            have X4 := Lib.hid (Gx.grown (Gx.trans X3.out (Gx.of_G gx _)) hgrow (own_block_of R3.out))
            have H4 := Lib.hid ((H3.out.g gx).grown hgrow (fun k hk => by have := own_block_of R3.out k hk; omega))
            clear hown hgrow gx
            go_wp2
            go_roundw
            case rel => exact ⟨r.length + 1, r ++ [y], by omega, by go_num, by simp, O4, X4, Lib.hid (H4.out.up (by omega) (by omega))⟩
            case measure => simp [intOf]; omega

          · have hg1 : decide ((r.length : Int) < x.Width) = true := decide_eq_true hw
            have hg2 : decide ((r.length : Int) < 70) = false := decide_eq_false (by omega)
            obtain ⟨Ar, cr, rfl, hcr⟩ := own_slice HR.out
            have hin := HO.out.inR
            have HO1 := Lib.hid (HO.out.gx (row := some s) X1.out hin (fun k hk => by cases hk; omega))
            have HOW := Lib.hid (show wr.ownsRow w2.heap.size 28 1 (.slice A7 j c7) j hs by have := HO1.out.own; rw [hZ] at this; exact this)
            go_wp2_with (at_builtin; refine wpList_append_lies _ rfl (.tmp 41) (.tmp 43) 25 rfl w2.heap.size 28 i1 (.slice none 0 0) 1 24 Try.underlying25 HJ.out.1 HJ.out.2.1 HJ.out.2.2.1 HJ.out.2.2.2 rfl (by decide) _ j _ rfl (HOW.out.alloc _) ⟨wr.heap.size, 0, none⟩ 1 1 [.slice Ar r.length cr] rfl rfl (block_news _ [.slice Ar r.length cr] _) (slc_one _ _ _) (by decide) ?c1 ?c2 ?c3 (wr.heap.size + 1) ?c6 ?_)
            case c1 => unfold maxLen; omega
            case c2 => omega
            case c3 => first | omega | (simp; omega)
            try (case c6 => first | rfl | simp)
            intro g cap w5 hown hgrow hlies _
            have gx := (G.refl wr).alloc (.cells #[.slice Ar r.length cr] 28)
            have HO2 := Lib.hid ((HO1.out.g gx).snoc2 hin (by omega) (own_G HR.out gx) hZ hown hgrow (by rcases hlies with e | e; exact .inl e; exact .inr (by simp; omega)))
            have X5 := Lib.hid (Gx.grown (Gx.trans X0.out (Gx.trans X1.out (Gx.of_G gx (some s)))) hgrow (own_block_of HOW.out))
            have H5 := Lib.hid ((HS3.out.g gx).grown hgrow (fun k hk => by have := own_block_of HOW.out k hk; omega))
            clear hown hgrow gx
            go_wp2
            go_roundw
            case rel => exact ⟨j + 1, _, _, hs ++ [.slice Ar r.length cr], Z ++ [r], by omega, by go_num, by simp; omega, rfl, Lib.hid (fun q hq => by (simp only [List.mem_append, List.mem_singleton] at hq; rcases hq with hq | rfl; exact HW2.out q hq; omega)), HO2, X5, Lib.hid (H5.out.up (by omega) (by omega))⟩
            case measure => simp [intOf]; omega

        · have hg1 : decide ((r.length : Int) < x.Width) = false := decide_eq_false hw
          obtain ⟨Ar, cr, rfl, hcr⟩ := own_slice HR.out
          have hin := HO.out.inR
          have HO1 := Lib.hid (HO.out.gx (row := some s) X1.out hin (fun k hk => by cases hk; omega))
          have HOW := Lib.hid (show wr.ownsRow w2.heap.size 28 1 (.slice A7 j c7) j hs by have := HO1.out.own; rw [hZ] at this; exact this)
          go_wp2_with (at_builtin; refine wpList_append_lies _ rfl (.tmp 41) (.tmp 43) 25 rfl w2.heap.size 28 i1 (.slice none 0 0) 1 24 Try.underlying25 HJ.out.1 HJ.out.2.1 HJ.out.2.2.1 HJ.out.2.2.2 rfl (by decide) _ j _ rfl (HOW.out.alloc _) ⟨wr.heap.size, 0, none⟩ 1 1 [.slice Ar r.length cr] rfl rfl (block_news _ [.slice Ar r.length cr] _) (slc_one _ _ _) (by decide) ?c1 ?c2 ?c3 (wr.heap.size + 1) ?c6 ?_)
          case c1 => unfold maxLen; omega
          case c2 => omega
          case c3 => first | omega | (simp; omega)
          try (case c6 => first | rfl | simp)
          intro g cap w5 hown hgrow hlies _
          have gx := (G.refl wr).alloc (.cells #[.slice Ar r.length cr] 28)
          have HO2 := Lib.hid ((HO1.out.g gx).snoc2 hin (by omega) (own_G HR.out gx) hZ hown hgrow (by rcases hlies with e | e; exact .inl e; exact .inr (by simp; omega)))
          have X5 := Lib.hid (Gx.grown (Gx.trans X0.out (Gx.trans X1.out (Gx.of_G gx (some s)))) hgrow (own_block_of HOW.out))
          have H5 := Lib.hid ((HS3.out.g gx).grown hgrow (fun k hk => by have := own_block_of HOW.out k hk; omega))
          clear hown hgrow gx
          go_wp2
          go_roundw
          case rel => exact ⟨j + 1, _, _, hs ++ [.slice Ar r.length cr], Z ++ [r], by omega, by go_num, by simp; omega, rfl, Lib.hid (fun q hq => by (simp only [List.mem_append, List.mem_singleton] at hq; rcases hq with hq | rfl; exact HW2.out q hq; omega)), HO2, X5, Lib.hid (H5.out.up (by omega) (by omega))⟩
          case measure => simp [intOf]; omega

    · have hjm : j ≤ M.length ∧ M.length ≤ j := by omega
      have hsz2 : s < w2.heap.size := by omega
      by_cases hp : 0 < j
      case neg =>
        have hgd : decide (0 < (j : Int)) = false := by simpa using hp
        have HH := HS2
        have XX := X0
        go_wp2_with fail
        have gx := (G.refl wr).alloc (.cells #[.int .i64 1, .int .i64 2, .int .i64 1, .int .i64 2, .int .i64 0, .int .i64 9, .int .i64 8] 2)
        refine (among_any (some ⟨wr.heap.size, 0, none⟩) 7 7 [1, 2, 1, 2, 0, 9, 8] _ s A n c L (0 + 90 + 140 * j) (HH.out.g gx) (by omega) (rd_lit wr [1, 2, 1, 2, 0, 9, 8] _) rfl (by omega) (by omega) (fun a ha => by cases ha; simp only; omega)).mono ?_
        rintro e w9 ⟨v9, ⟨u, hu, rfl⟩, rfl, g9, h9⟩
        have X9 := Lib.hid (Gx.trans XX.out (Gx.trans (Gx.of_G gx (some s)) g9))
        dsimp only
        go_wp2
        go_ret3
        subst hZ
        exact ⟨B, cb, M, A7, c7, Z, u, rfl, hM, hcb, HW.out, by omega, fun r hr => by have := HW2.out r hr; omega, Gx.G G1.out (Gx.trans X2.out X9.out) (by intro i hi; cases hi; exact hsw), (own_src O2.out hs1 X9.out).mono (by omega), ((HO.out.g gx).gx (row := some s) g9 (HO.out.g gx).inR (fun k hk => by cases hk; omega)).rd⟩
      have hgd : decide (0 < (j : Int)) = true := by simpa using hp
      go_wp2_with fail
      refine (one_any 8 _ s A n c L _ HS2.out (by omega) (by omega)).mono ?_
      rintro e w6 ⟨v6, ⟨q, rfl⟩, rfl, g6, h6⟩
      have X6 := Lib.hid (Gx.trans X0.out g6)
      have H6 := Lib.hid h6
      have HO6 := Lib.hid (HO.out.gx (row := some s) g6 HO.out.inR (fun k hk => by cases hk; omega))
      have hz6 := World.grownBy.size X6.out
      clear g6 h6 HO HS2 X0
      dsimp only
      cases q
      case false =>
        have HH := H6
        have XX := X6
        go_wp2_with fail
        have gx := (G.refl w6).alloc (.cells #[.int .i64 1, .int .i64 2, .int .i64 1, .int .i64 2, .int .i64 0, .int .i64 9, .int .i64 8] 2)
        refine (among_any (some ⟨w6.heap.size, 0, none⟩) 7 7 [1, 2, 1, 2, 0, 9, 8] _ s A n c L (0 + 90 + 140 * j + 2) (HH.out.g gx) (by omega) (rd_lit w6 [1, 2, 1, 2, 0, 9, 8] _) rfl (by omega) (by omega) (fun a ha => by cases ha; simp only; omega)).mono ?_
        rintro e w9 ⟨v9, ⟨u, hu, rfl⟩, rfl, g9, h9⟩
        have X9 := Lib.hid (Gx.trans XX.out (Gx.trans (Gx.of_G gx (some s)) g9))
        dsimp only
        go_wp2
        go_ret3
        subst hZ
        exact ⟨B, cb, M, A7, c7, Z, u, rfl, hM, hcb, HW.out, by omega, fun r hr => by have := HW2.out r hr; omega, Gx.G G1.out (Gx.trans X2.out X9.out) (by intro i hi; cases hi; exact hsw), (own_src O2.out hs1 X9.out).mono (by omega), ((HO6.out.g gx).gx (row := some s) g9 (HO6.out.g gx).inR (fun k hk => by cases hk; omega)).rd⟩
      have HOW := Lib.hid (show w6.ownsRow w2.heap.size 28 1 (.slice A7 j c7) j hs by have := HO6.out.own; rw [hZ] at this; exact this)
      obtain ⟨g7, rfl⟩ := own_some HOW.out hp
      have hsl0 := HO6.out.len
      obtain ⟨hv, hhv⟩ : ∃ hv, hs[0]? = some hv := ⟨_, List.getElem?_eq_getElem (by omega)⟩
      obtain ⟨r0, hr0⟩ : ∃ r0, Z[0]? = some r0 := ⟨_, List.getElem?_eq_getElem (by omega)⟩
      have HR0 := Lib.hid (HO6.out.row 0 hv r0 hhv hr0)
      obtain ⟨A0, c0, rfl, hc0⟩ := own_slice HR0.out
      have HHV := Lib.hid hhv
      have hl70 := HW2.out r0 (List.mem_of_getElem? hr0)
      have hcell := own_cellAt_mid HOW.out hhv
      have HCL := Lib.hid hcell
      have hfz := own_frozen_of HOW.out 0
      have hj0 : (0 : Int) < (j : Int) := by omega
      have hr0b : r0.length ≤ 70 := hl70
      have GW := Lib.hid (((G.refl w6).alloc (.cells #[.int .i64 0, .int .i64 256] 2)).drew)
      have OA := Lib.hid (own_G HOW.out ((G.refl w6).alloc (.cells #[.int .i64 0, .int .i64 256] 2)))
      have hg7 := (HOW.out.lt g7 rfl).1
      have HTOP := Lib.hid (HO6.out.top 0 _ HHV.out)
      have hneT : (Value.slice A0 r0.length c0).ownBlock ≠ some g7 := by
        rcases HTOP.out with e | e
        · rw [e]; simp
        · exact e
      clear hhv hr0
      go_wp2
      have qA := own_cellAt_mid OA.out HHV.out
      go_region_law (first | (refine step_append_lies _ (by rfl) (.tmp 55) (.tmp 59) 28 (by rfl) w2.heap.size 2 i0 (.int .i64 0) 1 8 Try.underlying28 HI.out.1 HI.out.2.1 HI.out.2.2.1 HI.out.2.2.2 rfl (by decide) _ r0.length _ (by rfl) (World.ownsRow.alloc R7.out _) ⟨w7.heap.size, 0, none⟩ 1 1 [.int .i64 y] (by rfl) rfl (block_news _ [.int .i64 y] _) (int_oneCell y) (by decide) (by unfold maxLen; omega) (by omega) (by have := GW.out.size; simp; omega) (w7.heap.size + 1) (by simp) ?_; intro g' cap w8 hown' hgrow hlies hcapp; have OW8 := Lib.hid hown'; have GR8 := Lib.hid hgrow; have LI8 := Lib.hid hlies; have CP8 := Lib.hid hcapp; have O8 := Lib.hid (own_Gx (World.ownsRow.alloc O7.out _) hgrow (.inr (fun e => hneT e.symm))); have q8 := own_cellAt_mid O8.out HHV.out; have f8 := own_frozen_of O8.out 0; clear hown' hgrow hlies hcapp) | (go_simp; go_at_call 24; (with_reducible refine (among_any (some ⟨w6.heap.size, 0, none⟩) 2 2 [0, 256] _ s A n c L (0 + 90 + 140 * j + 2) ?q1 ?q2 ?q3 ?q4 ?q5 ?q6 ?q7).mono ?_); (case q1 => exact H6.out.g GW.out); (case q2 => omega); (case q3 => exact (rd_lit w6 [0, 256] _).G (G.refl _).drew); (case q4 => rfl); (case q5 => omega); (case q6 => omega); (case q7 => (intro a ha; cases ha; simp only; omega)); rintro e w7 ⟨v7, ⟨y, hy, rfl⟩, rfl, p7, h7⟩; have X7 := Lib.hid p7; have H7 := Lib.hid h7; have z7 := World.grownBy.size p7; have O7 := Lib.hid (own_src (own_G HOW.out GW.out) hsz2 p7); have HO7 := Lib.hid ((HO6.out.g GW.out).gx (row := some s) p7 (HO6.out.g GW.out).inR (fun k hk => by cases hk; omega)); have R7 := Lib.hid (own_src (own_G HR0.out GW.out) hsz2 p7); have q7 := own_cellAt_mid O7.out HHV.out; have qB := own_cellAt_mid (World.ownsRow.alloc O7.out (.cells #[.int .i64 y] 2)) HHV.out; clear p7 h7 hy))
      all_goals
        have gy := (G.refl w7).alloc (.cells #[.int .i64 y] 2)
        have S9 := Lib.hid (World.ownsRow.stored O8.out 0 (.slice (some ⟨g', 0, none⟩) (r0.length + 1) cap))
        have hkr : ∀ k, (Value.slice A0 r0.length c0).ownBlock = some k → w2.heap.size ≤ k := own_block_of R7.out
        have RF := Lib.hid (fun (wz : World) (hz : Gx (some s) (w8.setCell ⟨g7, 0, none⟩ (.slice (some ⟨g', 0, none⟩) (r0.length + 1) cap)) wz) => RdR.first (r' := r0 ++ [y]) (HO7.out.g gy) hZ HHV.out GR8.out (show w8.ownsRow w2.heap.size 2 1 (.slice (some ⟨g', 0, none⟩) (r0.length + 1) cap) (r0.length + 1) ((r0 ++ [y]).flatMap iv) by rw [List.flatMap_append]; simpa [iv] using OW8.out) (by simp) (own_cap OW8.out).1 (by rcases LI8.out with e | e; exact .inl e; exact .inr (by simp; omega)) hsz2 hsz2 hz)
        have H9 := Lib.hid (((H7.out.g gy).grown GR8.out (fun k hk => by have := hkr k hk; omega)).grown S9.out.2 (fun k hk => by cases hk; omega))
        have X9a := Lib.hid (Gx.grown (Gx.grown (Gx.trans X6.out (Gx.trans (Gx.of_G GW.out (some s)) (Gx.trans X7.out (Gx.of_G gy (some s))))) GR8.out hkr) S9.out.2 (fun k hk => by cases hk; omega))
        obtain ⟨w9, HW9⟩ : ∃ w9, Hid (w8.setCell ⟨g7, 0, none⟩ (.slice (some ⟨g', 0, none⟩) (r0.length + 1) cap) = w9) := ⟨_, rfl⟩
        rw [HW9.out] at RF H9 X9a
        rw [HW9.out]
        have HH := H9
        have XX := X9a
        have hz9 := World.grownBy.size X9a.out
        clear q8 f8 gy hfz hcell qA
        go_wp2_with fail
        have gx := (G.refl w9).alloc (.cells #[.int .i64 1, .int .i64 2, .int .i64 1, .int .i64 2, .int .i64 0, .int .i64 9, .int .i64 8] 2)
        refine (among_any (some ⟨w9.heap.size, 0, none⟩) 7 7 [1, 2, 1, 2, 0, 9, 8] _ s A n c L (0 + 90 + 140 * j + 2 + 2) (HH.out.g gx) (by omega) (rd_lit w9 [1, 2, 1, 2, 0, 9, 8] _) rfl (by omega) (by omega) (fun a ha => by cases ha; simp only; omega)).mono ?_
        rintro e w10 ⟨v10, ⟨u, hu, rfl⟩, rfl, g10, h10⟩
        have X10 := Lib.hid (Gx.trans XX.out (Gx.trans (Gx.of_G gx (some s)) g10))
        dsimp only
        go_wp2
        go_ret3
        exact ⟨B, cb, M, some ⟨g7, 0, none⟩, c7, Z.set 0 (r0 ++ [y]), u, by rw [List.length_set, hZ]; rfl, hM, hcb, HW.out, by rw [List.length_set]; omega, fun r hr => by (have := List.mem_or_eq_of_mem_set hr; rcases this with h | rfl; have := HW2.out r h; omega; simp; omega), Gx.G G1.out (Gx.trans X2.out X10.out) (by intro i hi; cases hi; exact hsw), (own_src O2.out hs1 X10.out).mono (by omega), RF.out _ (Gx.trans (Gx.of_G gx (some s)) g10)⟩
end Go.Proofs.Ytckenipmebeopaa
