/-
  Walks: AnswerOrder, by both texts.
-/
import Derived.Test.YtfdghdnnjhilgaaNextQuestion
import Derived.Test.YtfdghdnnjhilgaaInts
import Derived.Deep.LoopGhost
import Derived.Deep.AppendLies
namespace Go.Proofs.Ytfdghdnnjhilgaa
open Go.RowKit

/-- One more is gone. -/
def upd (sk : Nat → Bool) (j : Nat) (i : Nat) : Bool := sk i || i == j
def cntF (sk : Nat → Bool) : Nat → Nat
  | 0 => 0
  | n + 1 => cntF sk n + (if sk n = true then 0 else 1)
theorem cntF_le (sk : Nat → Bool) (n : Nat) : cntF sk n ≤ n := by
  induction n with
  | zero => exact Nat.le_refl _
  | succ n ih => unfold cntF; split <;> omega
theorem cntF_mono (sk : Nat → Bool) (j n : Nat) : cntF (upd sk j) n ≤ cntF sk n := by
  induction n with
  | zero => exact Nat.le_refl _
  | succ n ih =>
    unfold cntF
    by_cases h : sk n = true
    · rw [if_pos h, if_pos (by unfold upd; rw [h]; rfl)]; omega
    · rw [if_neg h]; split <;> omega
theorem cntF_upd {sk : Nat → Bool} {j n : Nat} (hj : j < n) (h : sk j = false) : cntF (upd sk j) n < cntF sk n := by
  induction n with
  | zero => omega
  | succ n ih =>
    unfold cntF
    by_cases e : j = n
    · subst e
      have := cntF_mono sk j j
      rw [if_pos (by unfold upd; simp), if_neg (by rw [h]; simp)]
      omega
    · have := ih (by omega)
      by_cases h2 : sk n = true
      · rw [if_pos h2, if_pos (by unfold upd; rw [h2]; rfl)]; omega
      · rw [if_neg h2]; split <;> omega
def ordGo (L : List SQuestion) (e : Int) : Nat → (Nat → Bool) → Int → List Int → List Int
  | 0, _, _, out => out
  | f + 1, sk, now, out => if nxt L sk now L.length < 0 then out else match L[(nxt L sk now L.length).toNat]? with
    | none => out
    | some x => if now + x.Length ≤ e then ordGo L e f (upd sk (nxt L sk now L.length).toNat) (now + x.Length) (out ++ [nxt L sk now L.length]) else ordGo L e f (upd sk (nxt L sk now L.length).toNat) now out
section
variable {L : List SQuestion} {e now : Int} {f j : Nat} {sk : Nat → Bool} {out : List Int} {x : SQuestion}
theorem ordGo_end {v : Int} (h : nxt L sk now L.length = v) (hv : v < 0) : ordGo L e f sk now out = out := by
  cases f with
  | zero => rfl
  | succ f => unfold ordGo; rw [h, if_pos hv]
theorem ordGo_in (h : nxt L sk now L.length = j) (hx : L[j]? = some x) (hl : now + x.Length ≤ e) : ordGo L e (f + 1) sk now out = ordGo L e f (upd sk j) (now + x.Length) (out ++ [(j : Int)]) := by
  conv => lhs; unfold ordGo
  rw [h, if_neg (by omega), Int.toNat_natCast, hx]
  simp only [hl, if_true]
theorem ordGo_out (h : nxt L sk now L.length = j) (hx : L[j]? = some x) (hl : ¬ now + x.Length ≤ e) : ordGo L e (f + 1) sk now out = ordGo L e f (upd sk j) now out := by
  conv => lhs; unfold ordGo
  rw [h, if_neg (by omega), Int.toNat_natCast, hx]
  simp only [hl, if_false]
end
theorem ordGo_len (L : List SQuestion) (e : Int) (f : Nat) : ∀ (sk : Nat → Bool) (now : Int) (out : List Int), (ordGo L e f sk now out).length ≤ out.length + f := by
  induction f with
  | zero => intro sk now out; exact Nat.le_refl _
  | succ f ih =>
    intro sk now out
    unfold ordGo
    split
    · omega
    · split
      · omega
      · split
        · have := ih (upd sk (nxt L sk now L.length).toNat) (now + (by assumption : SQuestion).Length) (out ++ [nxt L sk now L.length])
          refine Nat.le_trans (ih _ _ _) ?_
          simp; omega
        · refine Nat.le_trans (ih _ _ _) ?_
          omega
def orderR (L : List SQuestion) (s e : Int) : List Int × Int := if vqs L = false then ([], 1) else if inB s 0 40000000 = false then ([], 2) else if inB e s 40000000 = false then ([], 2) else (ordGo L e (L.length + 1) (fun _ => false) s [], 0)
theorem vqs_len {L : List SQuestion} (h : vqs L = true) : L.length ≤ 16 := by simp only [vqs, Bool.and_eq_true, decide_eq_true_eq] at h; exact h.1
theorem vqs_at {L : List SQuestion} (h : vqs L = true) {k : Nat} {x : SQuestion} (hx : L[k]? = some x) : 0 ≤ x.Arrived ∧ x.Arrived ≤ 40000000 ∧ 1 ≤ x.Length ∧ x.Length ≤ 1800000 := by
  simp only [vqs, Bool.and_eq_true] at h
  have := chk_all h.2 hx
  simp only [vqB, Bool.and_eq_true, inB_iff] at this
  omega
theorem orderR_len (L : List SQuestion) (s e : Int) : (orderR L s e).1.length ≤ 512 := by
  unfold orderR
  split
  · simp
  · rename_i h
    split
    · simp
    · split
      · simp
      · have h1 := ordGo_len L e (L.length + 1) (fun _ => false) s []
        have h2 := vqs_len (L := L) (by simpa using h)
        simp only [List.length_nil] at h1
        simp only
        omega
theorem nxt_free {L : List SQuestion} {sk : Nat → Bool} {now : Int} {k j : Nat} (h : nxt L sk now k = j) : sk j = false := by
  induction k with
  | zero => exfalso; simp only [nxt] at h; omega
  | succ k ih =>
    unfold nxt at h
    split at h
    · exact ih h
    · split at h
      · exact ih h
      · rename_i hc
        have hk : sk k = false := by cases hs : sk k; rfl; exact absurd (Or.inl hs) hc
        split at h
        · have : k = j := by omega
          rw [← this]; exact hk
        · split at h
          · exact ih h
          · split at h
            · have : k = j := by omega
              rw [← this]; exact hk
            · exact ih h
theorem gB_set {Gs : List Bool} {j : Nat} (h : j < Gs.length) : gB (Gs.set j true) = upd (gB Gs) j := by
  funext i
  show (Gs.set j true).getD i false = (Gs.getD i false || i == j)
  rw [List.getD_eq_getElem?_getD, List.getElem?_set, List.getD_eq_getElem?_getD]
  by_cases e : j = i
  · subst e; simp [h]
  · rw [if_neg e]
    have : (i == j) = false := by simpa using fun h => e h.symm
    rw [this, Bool.or_false]
theorem hasI_snoc (M : List Int) (x y : Int) : hasI (M ++ [x]) y = (hasI M y || x == y) := by
  unfold hasI
  rw [List.all_append]
  cases M.all (nqI y) <;> simp [nqI]
theorem gI_snoc (M : List Int) (j : Nat) : gI (M ++ [(j : Int)]) = upd (gI M) j := by
  funext i
  unfold gI upd
  rw [hasI_snoc]
  congr 1
  rw [Bool.eq_iff_iff]; simp; omega
theorem flat_bools (L : List Bool) : L.flatMap bv = L.map Value.bool := by
  induction L with
  | nil => rfl
  | cons y L ih => rw [List.flatMap_cons, ih]; rfl
theorem flat_set (L : List Bool) (j : Nat) (b : Bool) : (L.flatMap bv).set j (.bool b) = (L.set j b).flatMap bv := by rw [flat_bools, flat_bools, List.map_set]
theorem own_low {w : World} {base base' : Nat} {e : TypeId} {size n : Nat} {v : Value} {xs : List Value} (h : w.ownsRow base e size v n xs) (hb : base' ≤ base) : w.ownsRow base' e size v n xs := by
  refine ⟨h.1, h.2.imp id ?_⟩
  rintro ⟨g, cap, cur, hv, hbg, rest⟩
  exact ⟨g, cap, cur, hv, Nat.le_trans hb hbg, rest⟩
theorem flat_snoc1 (M : List Int) (x : Int) : M.flatMap iv ++ [.int .i64 x] = (M ++ [x]).flatMap iv := by rw [List.flatMap_append]; rfl

set_option maxRecDepth 20000 in
set_option maxHeartbeats 4000000 in
theorem iAnswerOrder_any (A : Option Addr) (n c : Nat) (L : List SQuestion) (s e : Int) (w : World) (hr : Rd w A 4 cQuestion L) (hn : L.length = n) (hb : n ≤ 4194304) (hwf : ∀ x ∈ L, WfQuestion x) :
    Calls Try.prog 42 #[.slice A n c, .int .i64 s, .int .i64 e] w (Res w 2 1 iv (orderR L s e)) := by
  obtain ⟨i0, hi, hz0, hz1, hz2⟩ := info_parts infoBool
  have HI := Lib.hid (And.intro hi (And.intro hz0 (And.intro hz1 hz2)))
  clear hi hz0 hz1 hz2
  obtain ⟨i1, hi, hz0, hz1, hz2⟩ := info_parts infoInt
  have HJ := Lib.hid (And.intro hi (And.intro hz0 (And.intro hz1 hz2)))
  clear hi hz0 hz1 hz2
  have K := Lib.hid (ValidQuestions_any A n c L w hr hn hb hwf)
  have Hn := Lib.hid hn
  have HR := Lib.hid hr
  clear hr hn hwf
  cases hv : vqs L
  · have H := Lib.hid (show orderR L s e = ([], 1) by unfold orderR; rw [if_pos hv])
    rw [hv] at K
    clear hv
    go_enter Try.func42, Try.ntmps42
    go_wp2_with (go_at_call 29; refine K.out.mono ?_; rintro e w1 ⟨rfl, g1⟩; have G1 := Lib.hid g1; clear g1)
    go_ret2
    exact res_nil H.out G1.out
  rw [hv] at K
  have HV := Lib.hid hv
  have HF := Lib.hid (show orderR L s e = if inB s 0 40000000 = false then ([], 2) else if inB e s 40000000 = false then ([], 2) else (ordGo L e (n + 1) (fun _ => false) s [], 0) by unfold orderR; rw [if_neg (by rw [hv]; simp), Hn.out])
  clear hv
  cases hs : inB s 0 40000000
  · have H := Lib.hid (show orderR L s e = ([], 2) by rw [HF.out, if_pos hs])
    go_enter Try.func42, Try.ntmps42
    go_wp2_with (first | (go_at_call 29; refine K.out.mono ?_; rintro e w1 ⟨rfl, g1⟩; have G1 := Lib.hid g1; clear g1) | (go_at_call 56; refine (within_any _ _ _ _).mono ?_; rintro e w' ⟨rfl, rfl⟩))
    go_ret2
    exact res_nil H.out G1.out
  cases he : inB e s 40000000
  · have H := Lib.hid (show orderR L s e = ([], 2) by rw [HF.out, if_neg (by rw [hs]; simp), if_pos he])
    go_enter Try.func42, Try.ntmps42
    go_wp2_with (first | (go_at_call 29; refine K.out.mono ?_; rintro e w1 ⟨rfl, g1⟩; have G1 := Lib.hid g1; clear g1) | (go_at_call 56; refine (within_any _ _ _ _).mono ?_; rintro e w' ⟨rfl, rfl⟩))
    go_ret2
    exact res_nil H.out G1.out
  have HE := Lib.hid (show orderR L s e = (ordGo L e (n + 1) (fun _ => false) s [], 0) by rw [HF.out, if_neg (by rw [hs]; simp), if_neg (by rw [he]; simp)])
  have hsb := inB_iff.1 hs
  have heb := inB_iff.1 he
  have hn16 := vqs_len HV.out
  rw [Hn.out] at hn16
  go_enter Try.func42, Try.ntmps42
  go_wp2_with (first | (go_at_call 29; refine K.out.mono ?_; rintro e w1 ⟨rfl, g1⟩; have G1 := Lib.hid g1; have s1 := g1.size; clear g1) | (go_at_call 56; refine (within_any _ _ _ _).mono ?_; rintro e w' ⟨rfl, rfl⟩) | (refine wpList_make_full _ rfl _ _ 97 rfl w1.heap.size 4 i0 (.bool false) 1 Try.underlying97 HI.out.1 HI.out.2.1 HI.out.2.2.1 .i64 .i64 _ _ n rfl rfl rfl rfl (by rw [HI.out.2.2.2]; omega) (by unfold maxLen; omega) (Nat.le_refl _) ?_; intro w2 hown hgrow; have HO := Lib.hid hown; have s2 := (hown.lt _ rfl).2; have G2 := Lib.hid (G1.out.grown hgrow (by simp)); clear hown hgrow))
  clear hs he K HF
  obtain ⟨B, HB⟩ : ∃ B, Hid (w1.heap.size = B) := ⟨_, rfl⟩
  have hB := HB.out
  simp only [hB] at HO s1 s2 ⊢
  clear hB
  go_loopg [9, 10] (n + 1) (fun k v t wr => ∃ (Gs : List Bool) (now : Int) (out : List Int), t = .int .i64 now ∧ 0 ≤ now ∧ now ≤ 100000000 ∧ now ≤ e ∧ Gs.length = n ∧ cntF (gB Gs) n < k ∧ Hid (ordGo L e k (gB Gs) now out = ordGo L e (n + 1) (fun _ => false) s []) ∧ out.length + k ≤ n + 1 ∧ Hid (wr.ownsRow B 4 1 (.slice (some ⟨B, 0, none⟩) n n) n (Gs.flatMap bv)) ∧ Hid (wr.ownsRow (B + 1) 2 1 v out.length (out.flatMap iv)) ∧ Hid (G w wr) ∧ B + 1 ≤ wr.heap.size)
  case atStart => exact ⟨List.replicate n false, s, [], rfl, by omega, by omega, by omega, by simp, by have := cntF_le (gB (List.replicate n false)) n; omega, Lib.hid (by rw [gB_none]), by simp, Lib.hid (by rw [← flat_false]; exact HO.out), Lib.hid (World.ownsRow_nil _ _ _ _), G2, s2⟩
  case round =>
    obtain ⟨Gs, now, out, rfl, hn0, hn1, hne, hgs, hcnt, HO1, hlen, HG1, HV1, G3, hsz⟩ := hrel
    have HGS := Lib.hid hgs
    have HCN := Lib.hid hcnt
    clear hgs hcnt
    obtain ⟨k, rfl⟩ : ∃ k', gk = k' + 1 := ⟨gk - 1, by have := HCN.out; omega⟩
    have KN := Lib.hid (nextQuestion_any A n c L (some ⟨B, 0, none⟩) n Gs now wr (HR.out.G G3.out) Hn.out hb (rd_own Nat.one_pos (fun _ => rfl) HG1.out) HGS.out)
    obtain ⟨q, HQ⟩ : ∃ q, Hid (nxt L (gB Gs) now n = q) := ⟨_, rfl⟩
    rw [HQ.out] at KN
    by_cases hq : q < 0
    · have H := Lib.hid (show ordGo L e (n + 1) (fun _ => false) s [] = out by rw [← HO1.out]; exact ordGo_end (by rw [Hn.out]; exact HQ.out) hq)
      go_wp2_with (go_at_call 77; refine KN.out.mono ?_; rintro e w3 ⟨rfl, g3⟩; have G4 := Lib.hid g3; clear g3)
      go_ret2
      exact res_own (HE.out.trans (by rw [H.out])) rfl (own_low (own_G HV1.out G4.out) (by have := G1.out.size; omega)) (G3.out.trans G4.out)
    · obtain ⟨j, rfl⟩ : ∃ j : Nat, q = j := ⟨q.toNat, by omega⟩
      have hjb := nxt_bd L (gB Gs) now n
      rw [HQ.out] at hjb
      have hjn : j < n := by omega
      have HFR := Lib.hid (nxt_free HQ.out)
      obtain ⟨b, o, x, rfl, hx, hcw0, hcw1, hcw2, hcw3⟩ := HR.out.Question (k := j) (by rw [Hn.out]; exact hjn)
      have hxb := vqs_at HV.out hx
      have HX := Lib.hid hx
      have HC := Lib.hid hcw2
      have NE := Lib.hid (show B ≠ b by have := block_lt_of_cell hcw2; simp only at this; have := G1.out.size; have := HB.out; omega)
      clear hx hcw0 hcw1 hcw2 hcw3 hq hjb
      have HC2 := Lib.hid (show cntF (gB (Gs.set j true)) n < k by rw [gB_set (by rw [HGS.out]; exact hjn)]; have := cntF_upd hjn HFR.out; have := HCN.out; omega)
      have hj0 : 0 ≤ (j : Int) := by omega
      have hj2 : (j : Int) < (n : Int) := by omega
      by_cases hle : now + x.Length ≤ e
      · have HN := Lib.hid (show ordGo L e k (gB (Gs.set j true)) (now + x.Length) (out ++ [(j : Int)]) = ordGo L e (n + 1) (fun _ => false) s [] by rw [← HO1.out, gB_set (by rw [HGS.out]; exact hjn)]; exact (ordGo_in (by rw [Hn.out]; exact HQ.out) HX.out hle).symm)
        go_wp2_with fail
        refine KN.out.mono ?_
        rintro e w3 ⟨rfl, g3⟩
        have hG5 := own_G HG1.out g3
        obtain ⟨u, hu⟩ := Option.isSome_iff_exists.1 (own_there hG5 (o := j) (m := 1) (by omega) 0 (by omega)).1
        simp only [Nat.add_zero] at hu
        have hf := own_frozen_of hG5 j
        have hst := hG5.stored j (.bool true)
        have hV5 := own_Gx (own_G HV1.out g3) hst.2 (by
          cases hvb : u9.ownBlock with
          | none => exact .inl rfl
          | some q => right; intro h; cases h; have := own_block_of HV1.out _ hvb; omega)
        have hcx : (w3.setCell ⟨B, j, none⟩ (.bool true)).cell? ⟨b, o + j * 4 + 2, none⟩ = some (.int .i64 x.Length) := (World.cell?_setCell_far _ _ _ _ NE.out).trans ((G3.out.trans g3).cell HC.out)
        have HG6 := Lib.hid hst.1
        have HV6 := Lib.hid hV5
        have hs3 := g3.size
        have G6 := Lib.hid ((G3.out.trans g3).setCell (p := ⟨B, j, none⟩) (by have := G1.out.size; have := HB.out; simp only; omega) (.bool true))
        clear hG5 hst hV5 g3
        have hnews : ∀ jj u, [Value.int .i64 (j : Int)][jj]? = some u → ((w3.setCell ⟨B, j, none⟩ (.bool true)).alloc (.cells #[.int .i64 j] 2)).cell? ((⟨w3.heap.size, 0, none⟩ : Addr).add jj) = some u := by
          have := block_news (w3.setCell ⟨B, j, none⟩ (.bool true)) [.int .i64 j] 2
          simpa using this
        have HNW := Lib.hid hnews
        clear hnews
        go_wp2_with (at_builtin; refine wpList_append_own _ rfl (.tmp 54) (.tmp 56) 48 rfl (B + 1) 2 i1 (.int .i64 0) 1 8 Try.underlying48 HJ.out.1 HJ.out.2.1 HJ.out.2.2.1 HJ.out.2.2.2 rfl (by decide) _ out.length _ rfl (HV6.out.alloc _) ⟨w3.heap.size, 0, none⟩ 1 1 [.int .i64 j] rfl rfl HNW.out (int_oneCell _) ?c1 ?c2 ?c3 ?_)
        case c1 => unfold maxLen; omega
        case c2 => omega
        case c3 => simp; omega
        intro v' w4 hown4 hgrow4 _
        have hs4 := World.grownBy.size hgrow4
        simp only [World.size_alloc, World.size_setCell] at hs4
        have HV7 := Lib.hid (show w4.ownsRow (B + 1) 2 1 v' (out ++ [(j : Int)]).length ((out ++ [(j : Int)]).flatMap iv) by rw [← flat_snoc1, List.length_append]; exact hown4)
        have HG7 := Lib.hid (own_Gx (HG6.out.alloc _) hgrow4 (.inr (fun h => by have := own_block_of HV6.out B (by rw [← h]; rfl); omega)))
        have G7 := Lib.hid ((G6.out.alloc _).grown hgrow4 (fun q hq => by have := own_block_of HV6.out q hq; omega))
        clear hown4 hgrow4
        go_wp2
        go_roundg k
        case measure => omega
        case rel => exact ⟨Gs.set j true, now + x.Length, out ++ [(j : Int)], rfl, by omega, by omega, hle, by rw [List.length_set]; exact HGS.out, HC2.out, HN, by simp; omega, by rw [← flat_set]; exact HG7, HV7, G7, by omega⟩
      · have HN := Lib.hid (show ordGo L e k (gB (Gs.set j true)) now out = ordGo L e (n + 1) (fun _ => false) s [] by rw [← HO1.out, gB_set (by rw [HGS.out]; exact hjn)]; exact (ordGo_out (by rw [Hn.out]; exact HQ.out) HX.out hle).symm)
        go_wp2_with fail
        refine KN.out.mono ?_
        rintro e w3 ⟨rfl, g3⟩
        have hG5 := own_G HG1.out g3
        obtain ⟨u, hu⟩ := Option.isSome_iff_exists.1 (own_there hG5 (o := j) (m := 1) (by omega) 0 (by omega)).1
        simp only [Nat.add_zero] at hu
        have hf := own_frozen_of hG5 j
        have hst := hG5.stored j (.bool true)
        have hV5 := own_Gx (own_G HV1.out g3) hst.2 (by
          cases hvb : u9.ownBlock with
          | none => exact .inl rfl
          | some q => right; intro h; cases h; have := own_block_of HV1.out _ hvb; omega)
        have hcx : (w3.setCell ⟨B, j, none⟩ (.bool true)).cell? ⟨b, o + j * 4 + 2, none⟩ = some (.int .i64 x.Length) := (World.cell?_setCell_far _ _ _ _ NE.out).trans ((G3.out.trans g3).cell HC.out)
        have HG6 := Lib.hid hst.1
        have HV6 := Lib.hid hV5
        have hs3 := g3.size
        have G6 := Lib.hid ((G3.out.trans g3).setCell (p := ⟨B, j, none⟩) (by have := G1.out.size; have := HB.out; simp only; omega) (.bool true))
        clear hG5 hst hV5 g3
        go_wp2
        go_roundg k
        case measure => omega
        case rel => exact ⟨Gs.set j true, now, out, rfl, by omega, by omega, by omega, by rw [List.length_set]; exact HGS.out, HC2.out, HN, by omega, by rw [← flat_set]; exact HG6, HV6, G6, by simp only [World.size_setCell]; omega⟩

set_option maxRecDepth 20000 in
set_option maxHeartbeats 4000000 in
theorem sAnswerOrder_any (A : Option Addr) (n c : Nat) (L : List SQuestion) (s e : Int) (w : World) (hr : Rd w A 4 cQuestion L) (hn : L.length = n) (hb : n ≤ 4194304) (hwf : ∀ x ∈ L, WfQuestion x) :
    Calls Try.prog 41 #[.slice A n c, .int .i64 s, .int .i64 e] w (Res w 2 1 iv (orderR L s e)) := by
  obtain ⟨i1, hi, hz0, hz1, hz2⟩ := info_parts infoInt
  have HJ := Lib.hid (And.intro hi (And.intro hz0 (And.intro hz1 hz2)))
  clear hi hz0 hz1 hz2
  have K := Lib.hid (l18Questions_any A n c L w hr hn hb hwf)
  have Hn := Lib.hid hn
  have HR := Lib.hid hr
  clear hr hn hwf
  cases hv : vqs L
  · have H := Lib.hid (show orderR L s e = ([], 1) by unfold orderR; rw [if_pos hv])
    rw [hv] at K
    clear hv
    go_enter Try.func41, Try.ntmps41
    go_wp2_with (go_at_call 65; refine K.out.mono ?_; rintro e w1 ⟨rfl, g1⟩; have G1 := Lib.hid g1; clear g1)
    go_ret2
    exact res_nil H.out G1.out
  rw [hv] at K
  have HV := Lib.hid hv
  have HF := Lib.hid (show orderR L s e = if inB s 0 40000000 = false then ([], 2) else if inB e s 40000000 = false then ([], 2) else (ordGo L e (n + 1) (fun _ => false) s [], 0) by unfold orderR; rw [if_neg (by rw [hv]; simp), Hn.out])
  clear hv
  cases hs : inB s 0 40000000
  · have H := Lib.hid (show orderR L s e = ([], 2) by rw [HF.out, if_pos hs])
    go_enter Try.func41, Try.ntmps41
    go_wp2_with (first | (go_at_call 65; refine K.out.mono ?_; rintro e w1 ⟨rfl, g1⟩; have G1 := Lib.hid g1; clear g1) | (go_at_call 69; refine (l18Time_any _ _).mono ?_; rintro e w' ⟨rfl, rfl⟩) | (go_at_call 78; refine (l00In_any _ _ _ _).mono ?_; rintro e w' ⟨rfl, rfl⟩))
    go_ret2
    exact res_nil H.out G1.out
  cases he : inB e s 40000000
  · have H := Lib.hid (show orderR L s e = ([], 2) by rw [HF.out, if_neg (by rw [hs]; simp), if_pos he])
    go_enter Try.func41, Try.ntmps41
    go_wp2_with (first | (go_at_call 65; refine K.out.mono ?_; rintro e w1 ⟨rfl, g1⟩; have G1 := Lib.hid g1; clear g1) | (go_at_call 69; refine (l18Time_any _ _).mono ?_; rintro e w' ⟨rfl, rfl⟩) | (go_at_call 78; refine (l00In_any _ _ _ _).mono ?_; rintro e w' ⟨rfl, rfl⟩))
    go_ret2
    exact res_nil H.out G1.out
  have HE := Lib.hid (show orderR L s e = (ordGo L e (n + 1) (fun _ => false) s [], 0) by rw [HF.out, if_neg (by rw [hs]; simp), if_neg (by rw [he]; simp)])
  have hsb := inB_iff.1 hs
  have heb := inB_iff.1 he
  have hn16 := vqs_len HV.out
  rw [Hn.out] at hn16
  go_enter Try.func41, Try.ntmps41
  go_wp2_with (first | (go_at_call 65; refine K.out.mono ?_; rintro e w1 ⟨rfl, g1⟩; have G1 := Lib.hid g1; have s1 := g1.size; clear g1) | (go_at_call 69; refine (l18Time_any _ _).mono ?_; rintro e w' ⟨rfl, rfl⟩) | (go_at_call 78; refine (l00In_any _ _ _ _).mono ?_; rintro e w' ⟨rfl, rfl⟩))
  clear hs he K HF
  go_loopg [8, 9, 10] (n + 1) (fun k v u t wr => ∃ (g8 g9 c8 c9 : Nat) (M out : List Int) (now : Int), v = .slice (some ⟨g8, 0, none⟩) out.length c8 ∧ u = .slice (some ⟨g9, 0, none⟩) M.length c9 ∧ t = .int .i64 now ∧ 0 ≤ now ∧ now ≤ 100000000 ∧ now ≤ e ∧ cntF (gI M) n < k ∧ Hid (ordGo L e k (gI M) now out = ordGo L e (n + 1) (fun _ => false) s []) ∧ out.length + k ≤ n + 1 ∧ M.length + k = n + 1 ∧ Hid (wr.ownsRow w.heap.size 2 1 (.slice (some ⟨g8, 0, none⟩) out.length c8) out.length (out.flatMap iv)) ∧ Hid (wr.ownsRow w.heap.size 2 1 (.slice (some ⟨g9, 0, none⟩) M.length c9) M.length (M.flatMap iv)) ∧ g8 ≠ g9 ∧ Hid (G w wr))
  case atStart => exact ⟨w1.heap.size, w1.heap.size + 1, 0, 0, [], [], s, rfl, rfl, rfl, by omega, by omega, by omega, by have := cntF_le (gI []) n; omega, Lib.hid (by rw [gI_none]), by simp, by simp, Lib.hid ((World.ownsRow_lit (size := 1) w1 #[] 0 s1 (by unfold maxLen; omega) rfl).alloc _), Lib.hid (by have := World.ownsRow_lit (base := w.heap.size) (e := 2) (size := 1) (w1.alloc (.cells #[] 2)) #[] 0 (by simp; omega) (by unfold maxLen; omega) rfl; simpa using this), by omega, Lib.hid ((G1.out.alloc _).alloc _)⟩
  case round =>
    obtain ⟨g8, g9, c8, c9, M, out, now, rfl, rfl, rfl, hn0, hn1, hne, hcnt, HO1, hlo, hlm, HV1, HM1, hgg, G3⟩ := hrel
    have hb9 := (HM1.out.lt _ rfl)
    have hb8 := (HV1.out.lt _ rfl)
    have HCN := Lib.hid hcnt
    have HGG := Lib.hid hgg
    clear hcnt hgg
    obtain ⟨k, rfl⟩ : ∃ k', gk = k' + 1 := ⟨gk - 1, by have := HCN.out; omega⟩
    have KN := Lib.hid (l18Next_any A n c L (some ⟨g9, 0, none⟩) M.length c9 M now wr (HR.out.G G3.out) Hn.out hb (rd_ints HM1.out) rfl (by omega))
    obtain ⟨q, HQ⟩ : ∃ q, Hid (nxt L (gI M) now n = q) := ⟨_, rfl⟩
    rw [HQ.out] at KN
    by_cases hq : q < 0
    · have H := Lib.hid (show ordGo L e (n + 1) (fun _ => false) s [] = out by rw [← HO1.out]; exact ordGo_end (by rw [Hn.out]; exact HQ.out) hq)
      go_wp2_with (go_at_call 76; refine KN.out.mono ?_; rintro e w3 ⟨rfl, g3⟩; have G4 := Lib.hid g3; clear g3)
      go_ret2
      exact res_own (HE.out.trans (by rw [H.out])) rfl (own_G HV1.out G4.out) (G3.out.trans G4.out)
    · obtain ⟨j, rfl⟩ : ∃ j : Nat, q = j := ⟨q.toNat, by omega⟩
      have hjb := nxt_bd L (gI M) now n
      rw [HQ.out] at hjb
      have hjn : j < n := by omega
      have HFR := Lib.hid (nxt_free HQ.out)
      obtain ⟨b, o, x, rfl, hx, hcw0, hcw1, hcw2, hcw3⟩ := HR.out.Question (k := j) (by rw [Hn.out]; exact hjn)
      have hxb := vqs_at HV.out hx
      have HX := Lib.hid hx
      have HC := Lib.hid hcw2
      clear hx hcw0 hcw1 hcw2 hcw3 hq hjb
      have HC2 := Lib.hid (show cntF (gI (M ++ [(j : Int)])) n < k by rw [gI_snoc]; have := cntF_upd hjn HFR.out; have := HCN.out; omega)
      have hj0 : 0 ≤ (j : Int) := by omega
      have hj2 : (j : Int) < (n : Int) := by omega
      by_cases hle : now + x.Length ≤ e
      all_goals
        go_wp2_with fail
        refine KN.out.mono ?_
        rintro e w3 ⟨rfl, g3⟩
        have hs3 := g3.size
        have HV3 := Lib.hid (own_G HV1.out g3)
        have HM3 := Lib.hid (own_G HM1.out g3)
        have G4 := Lib.hid (G3.out.trans g3)
        clear g3
        go_wp2_with (at_builtin; refine wpList_append_lies _ rfl (.tmp 34) (.tmp 36) 48 rfl w.heap.size 2 i1 (.int .i64 0) 1 8 Try.underlying48 HJ.out.1 HJ.out.2.1 HJ.out.2.2.1 HJ.out.2.2.2 rfl (by decide) _ M.length _ rfl (HM3.out.alloc _) ⟨w3.heap.size, 0, none⟩ 1 1 [.int .i64 j] rfl rfl (block_news _ [.int .i64 j] _) (int_oneCell _) (by decide) ?c1 ?c2 ?c3 (w3.heap.size + 1) (by simp) ?_)
        case c1 => unfold maxLen; omega
        case c2 => omega
        case c3 => simp; omega
        intro h9 d9 w4 hown4 hgrow4 hat4 hlt4
        have hs4 := World.grownBy.size hgrow4
        simp only [World.size_alloc] at hs4
        have HM4 := Lib.hid (show w4.ownsRow w.heap.size 2 1 (.slice (some ⟨h9, 0, none⟩) (M ++ [(j : Int)]).length d9) (M ++ [(j : Int)]).length ((M ++ [(j : Int)]).flatMap iv) by rw [← flat_snoc1, List.length_append]; exact hown4)
        have HV4 := Lib.hid (own_Gx (HV3.out.alloc _) hgrow4 (.inr (fun h => HGG.out (by simpa [Value.ownBlock] using h))))
        have G5 := Lib.hid ((G4.out.alloc _).grown hgrow4 (fun q hq => by have := own_block_of HM3.out q hq; omega))
        have HNE := Lib.hid (show g8 ≠ h9 by rcases hat4 with h | h; (simp [Value.ownBlock] at h; rw [← h]; exact HGG.out); omega)
        have hcx := G5.out.cell HC.out
        clear hown4 hgrow4 hat4
      · have HN := Lib.hid (show ordGo L e k (gI (M ++ [(j : Int)])) (now + x.Length) (out ++ [(j : Int)]) = ordGo L e (n + 1) (fun _ => false) s [] by rw [← HO1.out, gI_snoc]; exact (ordGo_in (by rw [Hn.out]; exact HQ.out) HX.out hle).symm)
        go_wp2_with (at_builtin; refine wpList_append_lies _ rfl (.tmp 47) (.tmp 49) 48 rfl w.heap.size 2 i1 (.int .i64 0) 1 8 Try.underlying48 HJ.out.1 HJ.out.2.1 HJ.out.2.2.1 HJ.out.2.2.2 rfl (by decide) _ out.length _ rfl (HV4.out.alloc _) ⟨w4.heap.size, 0, none⟩ 1 1 [.int .i64 j] rfl rfl (block_news _ [.int .i64 j] _) (int_oneCell _) (by decide) ?c1 ?c2 ?c3 (w4.heap.size + 1) (by simp) ?_)
        case c1 => unfold maxLen; omega
        case c2 => omega
        case c3 => simp; omega
        intro h8 d8 w5 hown5 hgrow5 hat5 hlt5
        have hs5 := World.grownBy.size hgrow5
        simp only [World.size_alloc] at hs5
        have HV5 := Lib.hid (show w5.ownsRow w.heap.size 2 1 (.slice (some ⟨h8, 0, none⟩) (out ++ [(j : Int)]).length d8) (out ++ [(j : Int)]).length ((out ++ [(j : Int)]).flatMap iv) by rw [← flat_snoc1, List.length_append]; exact hown5)
        have HM5 := Lib.hid (own_Gx (HM4.out.alloc _) hgrow5 (.inr (fun h => HNE.out (by simpa [Value.ownBlock] using h.symm))))
        have G6 := Lib.hid ((G5.out.alloc _).grown hgrow5 (fun q hq => by have := own_block_of HV4.out q hq; omega))
        have HNF := Lib.hid (show h8 ≠ h9 by rcases hat5 with h | h; (simp [Value.ownBlock] at h; rw [← h]; exact HNE.out); omega)
        have hcy := G6.out.cell HC.out
        clear hown5 hgrow5 hat5 hcx
        go_wp2
        go_roundg k
        case measure => omega
        case rel => exact ⟨h8, h9, d8, d9, M ++ [(j : Int)], out ++ [(j : Int)], now + x.Length, by simp, by simp, rfl, by omega, by omega, hle, HC2.out, HN, by simp; omega, by simp; omega, HV5, HM5, HNF.out, G6⟩
      · have HN := Lib.hid (show ordGo L e k (gI (M ++ [(j : Int)])) now out = ordGo L e (n + 1) (fun _ => false) s [] by rw [← HO1.out, gI_snoc]; exact (ordGo_out (by rw [Hn.out]; exact HQ.out) HX.out (by omega)).symm)
        go_wp2
        go_roundg k
        case measure => omega
        case rel => exact ⟨g8, h9, c8, d9, M ++ [(j : Int)], out, now, rfl, by simp, rfl, by omega, by omega, by omega, HC2.out, HN, by omega, by simp; omega, HV4, HM4, HNE.out, G5⟩
end Go.Proofs.Ytfdghdnnjhilgaa
