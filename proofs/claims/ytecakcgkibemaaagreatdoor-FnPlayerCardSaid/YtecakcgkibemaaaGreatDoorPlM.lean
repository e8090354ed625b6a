/-
  Plain laws of the text of a player.
-/
import Derived.Test.YtecakcgkibemaaaGreatDoorCuM
import Derived.Test.YtecakcgkibemaaaGreatDoorPlText
namespace Go.Proofs.YtecakcgkibemaaaGreatDoor
open Go.RowKit

def wPlay : List UInt8 := [112, 108, 97, 121]
def wPause : List UInt8 := [112, 97, 117, 115, 101]
def plWL (p : Bool) : List UInt8 := if p then wPlay else wPause
def plHL (t r : Int) (p : Bool) : List UInt8 := plWL p ++ 32 :: (Lib.itoa t ++ 32 :: Lib.itoa r)
theorem plH_L (t r : Int) (p : Bool) : plH t r p = mkB (plHL t r p) := by
  unfold plH plHL
  rw [show dec t = mkB (Lib.itoa t) from rfl, show dec r = mkB (Lib.itoa r) from rfl, show (⟨#[32]⟩ : ByteArray) = mkB [32] from rfl, show plW p = mkB (plWL p) by cases p <;> rfl]
  simp only [mkB_append, List.append_assoc, List.cons_append, List.nil_append]
theorem joinL_app (c : UInt8) (a : List UInt8) : ∀ (L : List (List UInt8)) (b : List UInt8), joinL c (a :: L) ++ c :: b = joinL c (a :: (L ++ [b]))
  | [], b => rfl
  | x :: L, b => by
    have ih := joinL_app c x L b
    rw [List.cons_append]
    show (a ++ c :: joinL c (x :: L)) ++ c :: b = a ++ c :: joinL c (x :: (L ++ [b]))
    rw [← ih]
    simp
theorem plF_L (h : List UInt8) (L : List SCue) : plF (mkB h) L = mkB (joinL 47 (h :: L.map fun x => (cueT x).data.toList)) := by
  have key : ∀ (L done : List SCue), plF (mkB (joinL 47 (h :: done.map fun x => (cueT x).data.toList))) L = mkB (joinL 47 (h :: (done ++ L).map fun x => (cueT x).data.toList)) := by
    intro L
    induction L with
    | nil => intro done; simp [plF]
    | cons x L ih =>
      intro done
      have e : mkB (joinL 47 (h :: done.map fun x => (cueT x).data.toList)) ++ (⟨#[47]⟩ ++ cueT x) = mkB (joinL 47 (h :: (done ++ [x]).map fun x => (cueT x).data.toList)) := by
        rw [List.map_append, List.map_cons, List.map_nil, ← joinL_app, show (⟨#[47]⟩ : ByteArray) = mkB [47] from rfl]
        conv => lhs; rw [← mkB_of (cueT x)]
        simp only [mkB_append, List.cons_append, List.nil_append]
      have := ih (done ++ [x])
      unfold plF at this ⊢
      rw [List.foldl_cons, e, this]
      simp
  exact key L []
theorem plT_L (L : List SCue) (t r : Int) (p : Bool) : plT L t r p = mkB (joinL 47 (plHL t r p :: L.map fun x => (cueT x).data.toList)) := by
  unfold plT
  rw [plH_L, plF_L]
theorem plHL_47 (t r : Int) (p : Bool) : (47 : UInt8) ∉ plHL t r p := by
  unfold plHL
  simp only [List.mem_append, List.mem_cons, not_or]
  exact ⟨by cases p <;> decide, by decide, itoa_free (by decide) (by decide), by decide, itoa_free (by decide) (by decide)⟩
theorem joinL_mem {c d : UInt8} (hd : d ≠ c) : ∀ {P : List (List UInt8)}, (∀ l ∈ P, d ∉ l) → d ∉ joinL c P
  | [], _ => by simp [joinL]
  | [a], h => by simpa [joinL] using h a (by simp)
  | a :: b :: r, h => by
    have ih := joinL_mem hd (P := b :: r) (fun l hl => h l (by simp only [List.mem_cons] at hl ⊢; exact .inr hl))
    show d ∉ a ++ c :: joinL c (b :: r)
    simp only [List.mem_append, List.mem_cons, not_or]
    exact ⟨h a (by simp), hd, ih⟩
theorem cuWords_47 {x : SCue} (hv : vcuB x = true) {l : List UInt8} (h : l ∈ cuWords x) : (47 : UInt8) ∉ l := by
  have hn := vcuB_names hv
  have hi : ∀ n : Int, (47 : UInt8) ∉ Lib.itoa n := fun n => itoa_free (by decide) (by decide)
  unfold cuWords cuTail at h
  simp only [List.mem_cons] at h
  rcases h with rfl | rfl | rfl | h
  · exact name_free' hn.1 (by decide)
  · exact hi _
  · exact name_free' hn.2 (by decide)
  · split at h
    · simp only [List.mem_cons, List.mem_nil_iff, or_false] at h
      rcases h with rfl | rfl
      · decide
      · exact hi _
    · split at h
      · simp only [List.mem_cons, List.mem_nil_iff, or_false] at h
        rcases h with rfl | rfl | rfl
        · decide
        · exact hi _
        · exact hi _
      · simp only [List.mem_cons, List.mem_nil_iff, or_false] at h
        subst h
        decide
theorem cueT_47 {x : SCue} (hv : vcuB x = true) : (47 : UInt8) ∉ (cueT x).data.toList := by
  rw [cueT_L, mkB_data]
  exact joinL_mem (by decide) (fun l hl => cuWords_47 hv hl)
structure SPr where
  L : List SCue
  t : Int
  r : Int
  p : Bool
def PlOf (s : ByteArray) (x : SPr) : Prop := vplB x.L x.t x.r = true ∧ plT x.L x.t x.r x.p = s
theorem PlOf.parts {s : ByteArray} {x : SPr} (h : PlOf s x) : splitS 47 s = mkB (plHL x.t x.r x.p) :: x.L.map cueT := by
  obtain ⟨hv, rfl⟩ := h
  have hb := vplB_bd hv
  unfold splitS
  rw [plT_L, mkB_data, split_join 47 _ (by simp)]
  · rw [List.map_cons, List.map_map]
    congr 1
    first | done | (refine List.map_congr_left fun x _ => ?_; exact mkB_of _)
  · intro l hl
    simp only [List.mem_cons, List.mem_map] at hl
    rcases hl with rfl | ⟨y, hy, rfl⟩
    · exact plHL_47 _ _ _
    · obtain ⟨k, hk⟩ := List.mem_iff_getElem?.1 hy
      exact cueT_47 (vcus_at hb.1 hk)
theorem plHL_split (t r : Int) (p : Bool) : splitS 32 (mkB (plHL t r p)) = [mkB (plWL p), mkB (Lib.itoa t), mkB (Lib.itoa r)] := by
  unfold splitS
  rw [mkB_data]
  unfold plHL
  rw [split_hit 32 _ _ (by cases p <;> decide), split_hit 32 _ _ (itoa_32 _), split_miss 32 _ (itoa_32 _)]
  rfl
theorem plHL_words (t r : Int) (p : Bool) : wordsS (mkB (plHL t r p)) = [mkB (plWL p), mkB (Lib.itoa t), mkB (Lib.itoa r)] := by
  rw [words_full, plHL_split]
  intro y hy
  rw [plHL_split] at hy
  have hi : ∀ n : Int, (mkB (Lib.itoa n)).size ≠ 0 := fun n e => by
    rw [mkB_size] at e
    exact itoa_ne n (List.length_eq_zero_iff.1 e)
  simp only [List.mem_cons, List.mem_nil_iff, or_false] at hy
  rcases hy with rfl | rfl | rfl
  · cases p <;> decide
  · exact hi _
  · exact hi _
theorem pl_nums {L : List SCue} {t r : Int} (h : vplB L t r = true) : num (mkB (Lib.itoa t)) = some t ∧ num (mkB (Lib.itoa r)) = some r := by
  have := vplB_bd h
  exact ⟨num_itoa (by omega) (by omega), num_itoa (by omega) (by omega)⟩
theorem cues_read {L : List SCue} (h : vcus L = true) : (L.map cueT).all (fun y => (rcuR y).2) = true ∧ (L.map cueT).map (fun y => (rcuR y).1) = L := by
  have key : ∀ x ∈ L, rcuR (cueT x) = (x, true) := fun x hx => by
    obtain ⟨k, hk⟩ := List.mem_iff_getElem?.1 hx
    exact rcuR_of ⟨vcus_at h hk, rfl⟩
  refine ⟨?_, ?_⟩
  · rw [List.all_eq_true]
    intro y hy
    obtain ⟨x, hx, rfl⟩ := List.mem_map.1 hy
    rw [key x hx]
  · rw [List.map_map]
    conv => rhs; rw [← List.map_id L]
    refine List.map_congr_left fun x hx => ?_
    show (rcuR (cueT x)).1 = x
    rw [key x hx]
theorem PlOf.full {s : ByteArray} {x : SPr} (h : PlOf s x) : ∃ hd W n0 n1 n2, splitS 47 s = hd :: W ∧ splitS 32 hd = [n0, n1, n2] ∧ wordsS hd = [n0, n1, n2] ∧ n0 = mkB (plWL x.p) ∧ okN n1 = true ∧ okN n2 = true ∧ W.all (fun y => (rcuR y).2) = true ∧ x = ⟨W.map (fun y => (rcuR y).1), valN n1, valN n2, x.p⟩ := by
  have h1 := h.parts
  have hn := pl_nums h.1
  have k1 := okN_of hn.1
  have k2 := okN_of hn.2
  have hc := cues_read (vplB_bd h.1).1
  refine ⟨_, _, _, _, _, h1, plHL_split _ _ _, plHL_words _ _ _, rfl, k1.1, k2.1, hc.1, ?_⟩
  rw [k1.2, k2.2, hc.2]
theorem plWL_inj {p q : Bool} (h : mkB (plWL p) = mkB (plWL q)) : p = q := by
  have := mkB_inj h
  cases p <;> cases q <;> first | rfl | exact absurd this (by decide)
theorem PlOf.uniq {s : ByteArray} {x y : SPr} (h : PlOf s x) (k : PlOf s y) : x = y := by
  obtain ⟨hd, W, n0, n1, n2, h1, h2, -, h4, -, -, -, e1⟩ := h.full
  obtain ⟨hd', W', m0, m1, m2, k1, k2, -, k4, -, -, -, e2⟩ := k.full
  rw [h1] at k1
  simp only [List.cons.injEq] at k1
  obtain ⟨rfl, rfl⟩ := k1
  rw [h2] at k2
  simp only [List.cons.injEq, and_true] at k2
  obtain ⟨rfl, rfl, rfl⟩ := k2
  have := plWL_inj (h4.symm.trans k4)
  rw [e1, e2, this]
def prZ : SPr := ⟨[], 0, 0, false⟩
open Classical in
noncomputable def rplR (s : ByteArray) : SPr × Bool := if h : ∃ x, PlOf s x then (h.choose, true) else (prZ, false)
theorem rplR_of {s : ByteArray} {x : SPr} (h : PlOf s x) : rplR s = (x, true) := by
  unfold rplR
  rw [dif_pos ⟨x, h⟩]
  congr 1
  exact PlOf.uniq (Exists.choose_spec (⟨x, h⟩ : ∃ x, PlOf s x)) h
theorem rplR_no {s : ByteArray} (h : ∀ x, ¬ PlOf s x) : rplR s = (prZ, false) := by
  unfold rplR
  rw [dif_neg (fun ⟨x, e⟩ => h x e)]
theorem pl_len {s hd : ByteArray} {W : List ByteArray} (h : splitS 47 s = hd :: W) (hl : (splitS 32 hd).length ≠ 3 ∨ (wordsS hd).length ≠ 3) : rplR s = (prZ, false) := rplR_no fun x hx => by
  obtain ⟨hd', W', n0, n1, n2, h1, h2, h3, -⟩ := hx.full
  rw [h] at h1
  simp only [List.cons.injEq] at h1
  obtain ⟨rfl, rfl⟩ := h1
  rw [h2, h3] at hl
  rcases hl with hl | hl <;> exact hl rfl
theorem pl_eqS {s hd n0 n1 n2 : ByteArray} {W : List ByteArray} (h : splitS 47 s = hd :: W) (h2 : splitS 32 hd = [n0, n1, n2]) : rplR s = if (n0 = mkB wPlay ∨ n0 = mkB wPause) ∧ okN n1 = true ∧ okN n2 = true ∧ W.all (fun y => (rcuR y).2) = true ∧ vplB (W.map fun y => (rcuR y).1) (valN n1) (valN n2) = true then (⟨W.map fun y => (rcuR y).1, valN n1, valN n2, decide (n0 = mkB wPlay)⟩, true) else (prZ, false) := by
  by_cases hc : (n0 = mkB wPlay ∨ n0 = mkB wPause) ∧ okN n1 = true ∧ okN n2 = true ∧ W.all (fun y => (rcuR y).2) = true ∧ vplB (W.map fun y => (rcuR y).1) (valN n1) (valN n2) = true
  · rw [if_pos hc]
    obtain ⟨c0, c1, c2, c3, c4⟩ := hc
    refine rplR_of ⟨c4, ?_⟩
    have hne : ¬ (mkB wPause = mkB wPlay) := fun e => by have := mkB_inj e; exact absurd this (by decide)
    have hw : mkB (plWL (decide (n0 = mkB wPlay))) = n0 := by
      rcases c0 with rfl | rfl
      · rw [decide_eq_true rfl]; rfl
      · rw [decide_eq_false hne]; rfl
    have hh : mkB (plHL (valN n1) (valN n2) (decide (n0 = mkB wPlay))) = hd := by
      rw [split_back h2]
      have e0 : plWL (decide (n0 = mkB wPlay)) = n0.data.toList := by
        conv => rhs; rw [← hw]
        rw [mkB_data]
      unfold plHL
      rw [e0, okN_itoa c1, okN_itoa c2]
      rfl
    have hW : ∀ y ∈ W, cueT (rcuR y).1 = y := fun y hy => (rcuR_yes (List.all_eq_true.1 c3 y hy)).2
    show plT (W.map fun y => (rcuR y).1) (valN n1) (valN n2) (decide (n0 = mkB wPlay)) = s
    rw [plT_L]
    have hs : s = mkB (joinL 47 ((hd :: W).map fun y => y.data.toList)) := by
      have := join_split 47 s.data.toList
      have e : splitL 47 s.data.toList = (hd :: W).map fun y => y.data.toList := by
        refine map_inj' (fun _ _ => mkB_inj) ?_
        rw [List.map_map]
        have k : (mkB ∘ fun y : ByteArray => y.data.toList) = id := funext fun y => mkB_of y
        rw [k, List.map_id]
        exact h
      rw [← e, this, mkB_of]
    rw [hs, List.map_cons]
    have e1 : plHL (valN n1) (valN n2) (decide (n0 = mkB wPlay)) = hd.data.toList := by
      conv => rhs; rw [← hh]
      rw [mkB_data]
    have e2 : (W.map fun y => (rcuR y).1).map (fun x => (cueT x).data.toList) = W.map fun y => y.data.toList := by
      rw [List.map_map]
      refine List.map_congr_left fun y hy => ?_
      show (cueT (rcuR y).1).data.toList = y.data.toList
      rw [hW y hy]
    rw [e1, e2]
  · rw [if_neg hc]
    refine rplR_no fun x hx => hc ?_
    obtain ⟨hd', W', m0, m1, m2, k1, k2, -, k4, o1, o2, o3, e⟩ := hx.full
    rw [h] at k1
    simp only [List.cons.injEq] at k1
    obtain ⟨rfl, rfl⟩ := k1
    rw [h2] at k2
    simp only [List.cons.injEq, and_true] at k2
    obtain ⟨rfl, rfl, rfl⟩ := k2
    have hv := hx.1
    rw [e] at hv
    refine ⟨?_, o1, o2, o3, hv⟩
    rw [k4]
    cases x.p
    · exact .inr rfl
    · exact .inl rfl
theorem pl_eqW {s hd n0 n1 n2 : ByteArray} {W : List ByteArray} (h : splitS 47 s = hd :: W) (h2 : wordsS hd = [n0, n1, n2]) : rplR s = if okN n1 = true ∧ okN n2 = true ∧ W.all (fun y => (rcuR y).2) = true ∧ vplB (W.map fun y => (rcuR y).1) (valN n1) (valN n2) = true ∧ plT (W.map fun y => (rcuR y).1) (valN n1) (valN n2) (decide (n0 = mkB wPlay)) = s then (⟨W.map fun y => (rcuR y).1, valN n1, valN n2, decide (n0 = mkB wPlay)⟩, true) else (prZ, false) := by
  by_cases hc : okN n1 = true ∧ okN n2 = true ∧ W.all (fun y => (rcuR y).2) = true ∧ vplB (W.map fun y => (rcuR y).1) (valN n1) (valN n2) = true ∧ plT (W.map fun y => (rcuR y).1) (valN n1) (valN n2) (decide (n0 = mkB wPlay)) = s
  · rw [if_pos hc]
    exact rplR_of ⟨hc.2.2.2.1, hc.2.2.2.2⟩
  · rw [if_neg hc]
    refine rplR_no fun x hx => hc ?_
    obtain ⟨hd', W', m0, m1, m2, k1, -, k3, k4, o1, o2, o3, e⟩ := hx.full
    rw [h] at k1
    simp only [List.cons.injEq] at k1
    obtain ⟨rfl, rfl⟩ := k1
    rw [h2] at k3
    simp only [List.cons.injEq, and_true] at k3
    obtain ⟨rfl, rfl, rfl⟩ := k3
    have hv := hx.1
    have ht := hx.2
    have hp : decide (n0 = mkB wPlay) = x.p := by
      have hne : ¬ (mkB wPause = mkB wPlay) := fun e => by have := mkB_inj e; exact absurd this (by decide)
      rw [k4]
      cases x.p
      · exact decide_eq_false hne
      · exact decide_eq_true rfl
    rw [e] at hv ht
    refine ⟨o1, o2, o3, hv, ?_⟩
    rw [hp]
    exact ht
end Go.Proofs.YtecakcgkibemaaaGreatDoor
