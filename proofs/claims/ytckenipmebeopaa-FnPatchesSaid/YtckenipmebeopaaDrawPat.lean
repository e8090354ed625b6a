/-
  Walks: patches drawn from bytes, and what the laws FnUniverses and FnPatches draw.
-/
import Derived.Test.YtckenipmebeopaaDrawFix
import Derived.Test.YtckenipmebeopaaRowsTo
import Derived.Lib.SlBytesRow
namespace Go.Proofs.Ytckenipmebeopaa
open Go.RowKit

theorem own_some {w : World} {B T sz n c : Nat} {A : Option Addr} {xs : List Value} (h : w.ownsRow B T sz (.slice A n c) n xs) (hn : 0 < n) : ∃ b, A = some ⟨b, 0, none⟩ := by
  rcases h.2 with ⟨_, h0⟩ | ⟨g, cap, cur, e, _⟩
  · omega
  · simp only [Value.slice.injEq] at e
    exact ⟨g, e.1⟩
theorem addFR_wf {L : List SFixture} {f : SFixture} (hL : ∀ x ∈ L, WfFixture x) (hf : WfFixture f) : ∀ x ∈ (addFR L f).1, WfFixture x := by
  unfold addFR
  repeat' split
  all_goals try (intro x hx; simp at hx; done)
  intro x hx
  unfold addFL at hx
  simp only [List.mem_append, List.mem_cons] at hx
  rcases hx with hx | rfl | hx
  · exact hL x (List.mem_of_mem_take hx)
  · exact hf
  · exact hL x (List.mem_of_mem_drop hx)
theorem addFR_len1 {L : List SFixture} {f : SFixture} : (addFR L f).1.length ≤ L.length + 1 := by
  unfold addFR
  repeat' split
  all_goals simp [addFL_len]
theorem addFR_pos {L : List SFixture} {f : SFixture} (h : (addFR L f).2 = 0) : 0 < (addFR L f).1.length := by
  unfold addFR at h ⊢
  repeat' split
  all_goals first
    | (exfalso; revert h; simp only [*, if_true, if_false]; simp; done)
    | (simp [addFL_len]; done)
    | skip

set_option maxRecDepth 20000 in
set_option maxHeartbeats 4000000 in
theorem l20DrawOk_any (w : World) (s : Nat) (A : Option Addr) (n c : Nat) (L : List Int) (m : Nat) (h : Src w s A n c L m) (hm : m + 60 ≤ 1000000) :
    Calls Try.prog 44 #[.pointer (some ⟨s, 0, none⟩)] w (fun e w' => ∃ (v : Value) (M : List SFixture), e = .returned v ∧ M.length ≤ 5 ∧ (∀ x ∈ M, WfFixture x) ∧ Gx (some s) w w' ∧ Src w' s A n c L (m + 60) ∧ w'.ownsRow w.heap.size 34 4 v M.length (M.flatMap cFixture)) := by
  have hsl := h.lt
  have HN := Lib.hid (rd_lits w [⟨#[97]⟩, ⟨#[98]⟩, ⟨#[99]⟩, ⟨#[100]⟩, ⟨#[101]⟩] 9)
  have HX := Lib.hid ((G.refl w).alloc (.cells #[.string ⟨#[97]⟩, .string ⟨#[98]⟩, .string ⟨#[99]⟩, .string ⟨#[100]⟩, .string ⟨#[101]⟩] 9))
  have hs1 : (w.alloc (.cells #[.string ⟨#[97]⟩, .string ⟨#[98]⟩, .string ⟨#[99]⟩, .string ⟨#[100]⟩, .string ⟨#[101]⟩] 9)).heap.size = w.heap.size + 1 := by simp
  have OE := Lib.hid (World.ownsRow_lit (e := 34) (base := w.heap.size) (size := 4) (w.alloc (.cells #[.string ⟨#[97]⟩, .string ⟨#[98]⟩, .string ⟨#[99]⟩, .string ⟨#[100]⟩, .string ⟨#[101]⟩] 9)) #[] 0 (by simp) (by unfold maxLen; omega) rfl)
  have H0 := Lib.hid ((h.g HX.out).g ((G.refl _).alloc (.cells #[] 34)))
  have X0 := Lib.hid (Gx.of_G ((G.refl (w.alloc (.cells #[.string ⟨#[97]⟩, .string ⟨#[98]⟩, .string ⟨#[99]⟩, .string ⟨#[100]⟩, .string ⟨#[101]⟩] 9))).alloc (.cells #[] 34)) (some s))
  rw [hs1] at OE
  clear h hs1
  go_enter Try.func44, Try.ntmps44
  go_wp2
  obtain ⟨wN, HWN⟩ : ∃ wN, Hid (w.alloc (.cells #[.string ⟨#[97]⟩, .string ⟨#[98]⟩, .string ⟨#[99]⟩, .string ⟨#[100]⟩, .string ⟨#[101]⟩] 9) = wN) := ⟨_, rfl⟩
  have HN2 : Hid (Rd wN (some ⟨w.heap.size, 0, none⟩) 1 sv [⟨#[97]⟩, ⟨#[98]⟩, ⟨#[99]⟩, ⟨#[100]⟩, ⟨#[101]⟩]) := Lib.hid (by rw [← HWN.out]; exact HN.out)
  have HG : Hid (G w wN) := Lib.hid (by rw [← HWN.out]; exact HX.out)
  rw [HWN.out] at OE H0 X0
  rw [HWN.out]
  go_loopw [4, 5] (fun v i wr => ∃ (j b cb : Nat) (M : List SFixture), j ≤ 5 ∧ i = .int .i64 j ∧ M.length ≤ j ∧ v = .slice (some ⟨b, 0, none⟩) M.length cb ∧ Hid (∀ x ∈ M, WfFixture x) ∧ Hid (wr.ownsRow w.heap.size 34 4 (.slice (some ⟨b, 0, none⟩) M.length cb) M.length (M.flatMap cFixture)) ∧ Hid (Gx (some s) wN wr) ∧ Hid (Src wr s A n c L (m + 12 * j))) (fun _ i _ => 5 - (intOf i).toNat)
  case atStart => exact ⟨0, w.heap.size + 1, 0, [], by omega, rfl, Nat.le_refl _, rfl, Lib.hid (fun x hx => by simp at hx), OE, X0, H0⟩
  case round =>
    clear OE X0 H0 HN HX
    obtain ⟨j, b, cb, M, hj, rfl, hMj, rfl, HW, HO, X0, HS⟩ := hrel
    by_cases hlt : j < 5
    · obtain ⟨b2, o2, nm, e2, hnm, hcn⟩ := (HN2.out.Gx X0.out (fun a ha e => by cases ha; simp at e; omega)).str (k := j) (by simp; exact hlt)
      cases e2
      rw [Nat.zero_add] at hcn
      have hns : nm.size ≤ maxLen := by
        have := List.mem_of_getElem? hnm
        simp only [List.mem_cons, List.not_mem_nil, or_false] at this
        rcases this with rfl | rfl | rfl | rfl | rfl <;> decide
      clear hnm
      have hcap := (own_cap HO.out).1
      go_wp2_with fail
      refine (l20DrawOne_any nm _ s A n c L _ HS.out (by omega)).mono ?_
      rintro e w3 ⟨v3, ⟨u, a, wd, rfl⟩, rfl, g3, h3⟩
      have X3 := Lib.hid (Gx.trans X0.out g3)
      have O3 := Lib.hid (own_src HO.out hsl g3)
      have H3 := Lib.hid h3
      clear g3 h3 hcn HO HS X0
      dsimp only
      go_wp2_with fail
      refine (sAddFixture_any b M.length cb M ⟨nm, u, a, wd⟩ _ (rd_own (by decide) cFixture_len O3.out) rfl (by omega) hcap HW.out hns).mono ?_
      have WF := Lib.hid (addFR_wf (f := ⟨nm, u, a, wd⟩) HW.out hns)
      have hl1 := addFR_len1 (L := M) (f := ⟨nm, u, a, wd⟩)
      have HP := Lib.hid (addFR_pos (L := M) (f := ⟨nm, u, a, wd⟩))
      obtain ⟨R, HR⟩ : ∃ R, Hid (addFR M ⟨nm, u, a, wd⟩ = R) := ⟨_, rfl⟩
      rw [HR.out] at WF hl1 HP
      rw [HR.out]
      rintro e w4 ⟨B4, c4, rfl, g4, o4⟩
      have z3 := World.grownBy.size X3.out
      have z0 := HG.out.size
      have X4 := Lib.hid (Gx.trans X3.out (Gx.of_G g4 (some s)))
      have H4 := Lib.hid (H3.out.g g4)
      have O4 := Lib.hid (own_G O3.out g4)
      have N4 := Lib.hid (o4.mono (show w.heap.size ≤ w3.heap.size by omega))
      clear g4 o4 X3 H3 O3
      dsimp only
      by_cases hz : R.2 = 0
      case neg =>
        have hd : (R.2 == 0) = false := by simp [hz]
        clear hz
        go_wp2
        go_roundw
        case rel => exact ⟨j + 1, b, cb, M, by omega, by go_num, by omega, rfl, HW, O4, X4, Lib.hid (H4.out.up (by omega) (by omega))⟩
        case measure => simp [intOf]; omega
      have hd : (R.2 == 0) = true := by simp [hz]
      obtain ⟨b4, rfl⟩ := own_some N4.out (HP.out hz)
      clear hz
      go_wp2_with fail
      refine (one_any 4 _ s A n c L _ H4.out (by omega) (by omega)).mono ?_
      rintro e w5 ⟨v5, ⟨q, rfl⟩, rfl, g5, h5⟩
      have X5 := Lib.hid (Gx.trans X4.out g5)
      have H5 := Lib.hid (h5.up (k := m + 12 * (j + 1)) (by omega) (by omega))
      have O5 := Lib.hid (own_src O4.out hsl g5)
      have N5 := Lib.hid (own_src N4.out hsl g5)
      clear g5 h5 X4 H4 O4 N4
      dsimp only
      cases q
      · go_wp2
        go_roundw
        case rel => exact ⟨j + 1, b4, c4, R.1, by omega, by go_num, by omega, rfl, WF, N5, X5, H5⟩
        case measure => simp [intOf]; omega
      · go_wp2
        go_roundw
        case rel => exact ⟨j + 1, b, cb, M, by omega, by go_num, by omega, rfl, HW, O5, X5, H5⟩
        case measure => simp [intOf]; omega
    · go_wp2
      go_ret
      exact ⟨_, M, rfl, by omega, HW.out, Gx.trans (Gx.of_G HG.out (some s)) X0.out, HS.out.up (by omega) hm, HO.out⟩

set_option maxRecDepth 20000 in
set_option maxHeartbeats 4000000 in
theorem l20Draw_any (w : World) (s : Nat) (A : Option Addr) (n c : Nat) (L : List Int) (m : Nat) (h : Src w s A n c L m) (hm : m + 90 ≤ 1000000) :
    Calls Try.prog 21 #[.pointer (some ⟨s, 0, none⟩)] w (fun e w' => ∃ (v : Value) (M : List SFixture), e = .returned v ∧ M.length ≤ 20 ∧ (∀ x ∈ M, WfFixture x) ∧ Gx (some s) w w' ∧ Src w' s A n c L (m + 90) ∧ w'.ownsRow w.heap.size 34 4 v M.length (M.flatMap cFixture)) := by
  obtain ⟨i0, hi, hz0, hz1, hz2⟩ := info_parts infoFixture
  have HI := Lib.hid (And.intro hi (And.intro hz0 (And.intro hz1 hz2)))
  clear hi hz0 hz1 hz2
  have hsl := h.lt
  have K := Lib.hid (l20DrawOk_any w s A n c L m h (by omega))
  clear h
  go_enter Try.func21, Try.ntmps21
  go_wp2_with fail
  refine K.out.mono ?_
  rintro e w1 ⟨v, M, rfl, hM, hW, g1, h1, o1⟩
  have X1 := Lib.hid g1
  have H1 := Lib.hid h1
  have O1 := Lib.hid o1
  have HW := Lib.hid hW
  clear g1 h1 o1 K hW
  dsimp only
  go_wp2_with fail
  refine (pick_any 18 _ s A n c L (m + 60) H1.out (by omega) (by omega)).mono ?_
  rintro e w2 ⟨v2, ⟨q, hq0, hq1, rfl⟩, rfl, g2, h2⟩
  have X2 := Lib.hid (Gx.trans X1.out g2)
  have H2 := Lib.hid h2
  have O2 := Lib.hid (own_src O1.out hsl g2)
  have hsz2 := World.grownBy.size X2.out
  clear g2 h2 X1 H1 O1
  dsimp only
  by_cases c0 : q = 0
  · subst c0
    go_wp2_with fail
    refine (l20DrawOne_any ⟨#[122, 122]⟩ _ s A n c L (m + 62) H2.out (by omega)).mono ?_
    rintro e w3 ⟨v3, ⟨uu, aa, wd, rfl⟩, rfl, g3, h3⟩
    have X3 := Lib.hid (Gx.trans X2.out g3)
    have O3 := Lib.hid (own_src O2.out hsl g3)
    have H3 := Lib.hid h3
    clear g3 h3 X2 O2 H2
    dsimp only
    go_wp2_with fail
    refine (l20Bend_any ⟨⟨#[122, 122]⟩, uu, aa, wd⟩ (show (2 : Nat) ≤ maxLen by decide) _ s A n c L (m + 70) H3.out (by omega)).mono ?_
    rintro e w4 ⟨v4, ⟨x, hx, rfl⟩, rfl, g4, h4⟩
    have X4 := Lib.hid (Gx.trans X3.out g4)
    have O4 := Lib.hid (own_src O3.out hsl g4)
    have H4 := Lib.hid h4
    have hsz4 := World.grownBy.size X4.out
    have HX := Lib.hid hx
    clear g4 h4 X3 O3 H3 hx
    dsimp only
    go_wp2_with (at_builtin; refine wpList_append_own _ rfl (.tmp 12) (.tmp 17) 24 rfl w.heap.size 34 i0 (.agg #[.string ⟨#[]⟩, .int .i64 0, .int .i64 0, .int .i64 0]) 4 40 Try.underlying24 HI.out.1 HI.out.2.1 HI.out.2.2.1 HI.out.2.2.2 rfl (by decide) _ M.length _ rfl (O4.out.alloc _) ⟨w4.heap.size, 0, none⟩ 1 1 (cFixture x) rfl rfl (block_news _ (cFixture x) _) (cFixture_one _) ?c1 ?c2 ?c3 ?_)
    case c1 => unfold maxLen; omega
    case c2 => omega
    case c3 => simp; omega
    intro v' w5 hown hgrow _
    have gx := (G.refl w4).alloc (.cells (cFixture x).toArray 34)
    have O5 := Lib.hid (show w5.ownsRow w.heap.size 34 4 v' (M ++ [x]).length ((M ++ [x]).flatMap cFixture) by rw [List.length_append, List.flatMap_append]; simpa using hown)
    have X5 := Lib.hid (Gx.grown (Gx.trans X4.out (Gx.of_G gx _)) hgrow (own_block_of O4.out))
    have H5 := Lib.hid ((H4.out.g gx).grown hgrow (fun k hk => by have := own_block_of O4.out k hk; omega))
    clear hown hgrow gx
    go_wp2
    go_ret
    exact ⟨v', M ++ [x], rfl, by simp; omega, fun y hy => by (simp only [List.mem_append, List.mem_singleton] at hy; rcases hy with hy | rfl; exact HW.out y hy; exact HX.out), X5.out, H5.out.up (by omega) hm, O5.out⟩
  by_cases c1 : q = 1
  · subst c1
    go_wp2_with fail
    have gx := (G.refl w2).alloc (.cells #[.int .i64 16, .int .i64 17] 2)
    refine (among_any (some ⟨w2.heap.size, 0, none⟩) 2 2 [16, 17] _ s A n c L (m + 62) (H2.out.g gx) (by omega) (rd_lit w2 [16, 17] _) rfl (by omega) (by omega) (fun a ha => by cases ha; simp only; omega)).mono ?_
    rintro e w3 ⟨v3, ⟨x, hx, rfl⟩, rfl, g3, h3⟩
    have X3 := Lib.hid (Gx.trans X2.out (Gx.trans (Gx.of_G gx (some s)) g3))
    have H3 := Lib.hid h3
    have hsz3 := World.grownBy.size X3.out
    have HXM := Lib.hid hx
    clear g3 h3 gx hx
    dsimp only
    have hx17 : x = 16 ∨ x = 17 := by simpa using HXM.out
    have OE := Lib.hid (World.ownsRow_lit (e := 34) (base := w.heap.size) (size := 4) w3 #[] 0 hsz3 (by unfold maxLen; omega) rfl)
    have X3b := Lib.hid (Gx.trans X3.out (Gx.of_G ((G.refl w3).alloc (.cells #[] 34)) _))
    have H3b := Lib.hid (H3.out.g ((G.refl w3).alloc (.cells #[] 34)))
    obtain ⟨y, rfl⟩ : ∃ y : Nat, x = y := ⟨x.toNat, by omega⟩
    have hy : y ≤ 17 := by omega
    clear hx17 O2 HXM HW hM M
    go_wp2
    go_loopw [3, 5] (fun v i wr => ∃ (j : Nat) (M : List SFixture), j ≤ y ∧ i = .int .i64 j ∧ M.length = j ∧ Hid (∀ x ∈ M, WfFixture x) ∧ Hid (wr.ownsRow w.heap.size 34 4 v M.length (M.flatMap cFixture)) ∧ Hid (Gx (some s) w wr) ∧ Hid (Src wr s A n c L (m + 64))) (fun _ i _ => y - (intOf i).toNat)
    case atStart => exact ⟨0, [], Nat.zero_le _, rfl, rfl, Lib.hid (fun x hx => by simp at hx), OE, X3b, H3b⟩
    case round =>
      clear OE X3b H3b X3 H3
      obtain ⟨j, M, hj, rfl, hMj, HW, HO, X0, HS⟩ := hrel
      have hsz := World.grownBy.size X0.out
      by_cases hlt : j < y
      · obtain ⟨z, hz⟩ : ∃ z : UInt8, (z.toNat : Int) = 97 + (j : Int) := ⟨UInt8.ofNat (97 + j), by rw [UInt8.toNat_ofNat', Nat.mod_eq_of_lt (by omega)]; omega⟩
        have kc := Lib.run_convert_whole (P := Try.prog) (wr.alloc (.cells #[.int .u8 (97 + (j : Int))] 5)) 22 5 9 Try.underlying22 Try.underlying5 Try.underlying9 wr.heap.size 0 ⟨#[z]⟩ (fun i hi => by
          obtain rfl : i = 0 := by (have h1 : i < 1 := hi); omega
          rw [World.cell?_alloc_at _ _ _ _ rfl, ← hz]
          rfl) 1
        have kc1 : (ByteArray.mk #[z]).size = 1 := rfl
        rw [kc1] at kc
        have hzs : WfFixture ⟨⟨#[110]⟩ ++ ⟨#[z]⟩, 1, 1 + 4 * (j : Int), 4⟩ := show ((ByteArray.mk #[110]) ++ (ByteArray.mk #[z])).size ≤ maxLen by rw [ByteArray.size_append]; show 1 + 1 ≤ maxLen; decide
        clear hz
        go_wp2_with (at_builtin; refine wpList_append_own _ rfl (.tmp 30) (.tmp 41) 24 rfl w.heap.size 34 i0 (.agg #[.string ⟨#[]⟩, .int .i64 0, .int .i64 0, .int .i64 0]) 4 40 Try.underlying24 HI.out.1 HI.out.2.1 HI.out.2.2.1 HI.out.2.2.2 rfl (by decide) _ M.length _ rfl ((HO.out.alloc _).alloc _) ⟨wr.heap.size + 1, 0, none⟩ 1 1 (cFixture ⟨⟨#[110]⟩ ++ ⟨#[z]⟩, 1, 1 + 4 * (j : Int), 4⟩) rfl rfl ?c4 (cFixture_one _) ?c1 ?c2 ?c3 ?_)
        case c1 => unfold maxLen; omega
        case c2 => omega
        case c3 => simp; omega
        case c4 => exact (by have := block_news (wr.alloc (.cells #[.int .u8 (97 + (j : Int))] 5)) (cFixture ⟨⟨#[110]⟩ ++ ⟨#[z]⟩, 1, 1 + 4 * (j : Int), 4⟩) 34; simp only [World.size_alloc] at this; exact this)
        intro v' w4 hown hgrow _
        have gx := ((G.refl wr).alloc (.cells #[.int .u8 (97 + (j : Int))] 5)).alloc (.cells (cFixture ⟨⟨#[110]⟩ ++ ⟨#[z]⟩, 1, 1 + 4 * (j : Int), 4⟩).toArray 34)
        have O4 := Lib.hid (show w4.ownsRow w.heap.size 34 4 v' (M ++ [(⟨⟨#[110]⟩ ++ ⟨#[z]⟩, 1, 1 + 4 * (j : Int), 4⟩ : SFixture)]).length ((M ++ [(⟨⟨#[110]⟩ ++ ⟨#[z]⟩, 1, 1 + 4 * (j : Int), 4⟩ : SFixture)]).flatMap cFixture) by rw [List.length_append, List.flatMap_append]; simpa [hMj] using hown)
        have X4 := Lib.hid (Gx.grown (Gx.trans X0.out (Gx.of_G gx _)) hgrow (own_block_of HO.out))
        have H4 := Lib.hid ((HS.out.g gx).grown hgrow (fun k hk => by have := own_block_of HO.out k hk; omega))
        clear hown hgrow gx
        go_wp2
        go_roundw
        case rel => exact ⟨j + 1, M ++ [⟨⟨#[110]⟩ ++ ⟨#[z]⟩, 1, 1 + 4 * (j : Int), 4⟩], by omega, by go_num, by simp; omega, Lib.hid (fun y hy => by (simp only [List.mem_append, List.mem_singleton] at hy; rcases hy with hy | rfl; exact HW.out y hy; exact hzs)), O4, X4, H4⟩
        case measure => simp [intOf]; omega
      · go_wp2
        go_ret
        exact ⟨_, M, rfl, by omega, HW.out, X0.out, HS.out.up (by omega) hm, HO.out⟩
  have d0 : ((q : Int) == 0) = false := by simp [c0]
  have d1 : ((q : Int) == 1) = false := by simp [c1]
  clear c0 c1
  go_wp2
  go_ret
  exact ⟨_, M, rfl, by omega, HW.out, X2.out, H2.out.up (by omega) hm, O2.out⟩
end Go.Proofs.Ytckenipmebeopaa
