/-
  Plain laws of the text of a cue.
-/
import Derived.Test.YtecakcgkibemaaaGreatDoorTxtM
import Derived.Test.YtecakcgkibemaaaGreatDoorCuText
namespace Go.Proofs.YtecakcgkibemaaaGreatDoor
open Go.RowKit

def wSet : List UInt8 := [115, 101, 116]
def wFade : List UInt8 := [102, 97, 100, 101]
def wStop : List UInt8 := [115, 116, 111, 112]
def cuTail (x : SCue) : List (List UInt8) := if x.Action = 1 then [wSet, Lib.itoa x.Value] else if x.Action = 2 then [wFade, Lib.itoa x.Value, Lib.itoa x.Length] else [wStop]
def cuWords (x : SCue) : List (List UInt8) := x.Id.data.toList :: Lib.itoa x.Time :: x.Target.data.toList :: cuTail x
theorem cueB_L (x : SCue) : cueB x = mkB (x.Id.data.toList ++ 32 :: (Lib.itoa x.Time ++ 32 :: x.Target.data.toList)) := by
  unfold cueB
  rw [show dec x.Time = mkB (Lib.itoa x.Time) from rfl, show (⟨#[32]⟩ : ByteArray) = mkB [32] from rfl]
  conv => lhs; rw [← mkB_of x.Id, ← mkB_of x.Target]
  simp only [mkB_append, List.append_assoc, List.cons_append, List.nil_append]
theorem cueT_L (x : SCue) : cueT x = mkB (joinL 32 (cuWords x)) := by
  unfold cueT cuWords cuTail
  rw [show dec x.Value = mkB (Lib.itoa x.Value) from rfl, show dec x.Length = mkB (Lib.itoa x.Length) from rfl, cueB_L]
  split
  · rw [show (⟨#[32, 115, 101, 116, 32]⟩ : ByteArray) = mkB (32 :: wSet ++ [32]) from rfl]
    simp only [mkB_append, joinL, List.append_assoc, List.cons_append, List.nil_append]
  · split
    · rw [show (⟨#[32, 102, 97, 100, 101, 32]⟩ : ByteArray) = mkB (32 :: wFade ++ [32]) from rfl, show (⟨#[32]⟩ : ByteArray) = mkB [32] from rfl]
      simp only [mkB_append, joinL, List.append_assoc, List.cons_append, List.nil_append]
    · rw [show (⟨#[32, 115, 116, 111, 112]⟩ : ByteArray) = mkB (32 :: wStop) from rfl]
      simp only [mkB_append, joinL, List.append_assoc, List.cons_append]
theorem name_free' {s : ByteArray} (h : nameB s = true) {c : UInt8} (hc : wordB c = false) : c ∉ s.data.toList := fun hm => by
  simp only [nameB, Bool.and_eq_true] at h
  have := List.all_eq_true.1 h.2 c hm
  rw [hc] at this
  cases this
theorem itoa_32 (n : Int) : (32 : UInt8) ∉ Lib.itoa n := itoa_free (by decide) (by decide)
theorem cuTail_mem {x : SCue} {l : List UInt8} (h : l ∈ cuTail x) : (32 : UInt8) ∉ l ∧ l ≠ [] := by
  unfold cuTail at h
  split at h
  · simp only [List.mem_cons, List.mem_nil_iff, or_false] at h
    rcases h with rfl | rfl
    · exact ⟨by decide, by decide⟩
    · exact ⟨itoa_32 _, itoa_ne _⟩
  · split at h
    · simp only [List.mem_cons, List.mem_nil_iff, or_false] at h
      rcases h with rfl | rfl | rfl
      · exact ⟨by decide, by decide⟩
      · exact ⟨itoa_32 _, itoa_ne _⟩
      · exact ⟨itoa_32 _, itoa_ne _⟩
    · simp only [List.mem_cons, List.mem_nil_iff, or_false] at h
      subst h
      exact ⟨by decide, by decide⟩
theorem name_ne {s : ByteArray} (h : nameB s = true) : s.data.toList ≠ [] := by
  have := nameB_size h
  intro e
  have k := size_data s
  rw [e] at k
  simp at k
  omega
theorem cuWords_mem {x : SCue} (hv : vcuB x = true) {l : List UInt8} (h : l ∈ cuWords x) : (32 : UInt8) ∉ l ∧ l ≠ [] := by
  have hn := vcuB_names hv
  unfold cuWords at h
  simp only [List.mem_cons] at h
  rcases h with rfl | rfl | rfl | h
  · exact ⟨name_free' hn.1 (by decide), name_ne hn.1⟩
  · exact ⟨itoa_32 _, itoa_ne _⟩
  · exact ⟨name_free' hn.2 (by decide), name_ne hn.2⟩
  · exact cuTail_mem h
theorem cue_split {x : SCue} (hv : vcuB x = true) : splitS 32 (cueT x) = (cuWords x).map mkB := by
  unfold splitS
  rw [cueT_L, mkB_data, split_join 32 _ (by unfold cuWords; simp) (fun l hl => (cuWords_mem hv hl).1)]
theorem cue_words {x : SCue} (hv : vcuB x = true) : wordsS (cueT x) = (cuWords x).map mkB := by
  rw [words_full, cue_split hv]
  intro y hy
  rw [cue_split hv] at hy
  obtain ⟨l, hl, rfl⟩ := List.mem_map.1 hy
  have := (cuWords_mem hv hl).2
  rw [mkB_size]
  intro e
  exact this (List.length_eq_zero_iff.1 e)
def cuK (a : ByteArray) (n : Nat) : Int := if a = mkB wSet ∧ n = 1 then 1 else if a = mkB wFade ∧ n = 2 then 2 else if a = mkB wStop ∧ n = 0 then 3 else 0
def cuK2 (a : ByteArray) (n : Nat) : Int := if a = mkB wSet ∧ n = 1 then 1 else if a = mkB wFade ∧ n = 2 then 2 else if a = mkB wStop then 3 else 0
def cuMk (i : ByteArray) (t : Int) (g : ByteArray) (k : Int) (v : List Int) : SCue := ⟨i, t, if k = 2 then v.getD 1 0 else 0, g, k, if k = 1 ∨ k = 2 then v.getD 0 0 else 0⟩
def cuZ : SCue := ⟨⟨#[]⟩, 0, 0, ⟨#[]⟩, 0, 0⟩
def CuOf (s : ByteArray) (x : SCue) : Prop := vcuB x = true ∧ cueT x = s
theorem vcuB_act {x : SCue} (h : vcuB x = true) : (x.Action = 1 ∧ x.Length = 0) ∨ x.Action = 2 ∨ (x.Action = 3 ∧ x.Length = 0 ∧ x.Value = 0) := by
  have hb := vcuB_bd h
  unfold vcuB at h
  simp only [Bool.and_eq_true] at h
  have ha := h.2
  unfold actB at ha
  rcases (show x.Action = 1 ∨ x.Action = 2 ∨ x.Action = 3 by omega) with e | e | e
  · rw [if_pos e] at ha
    exact .inl ⟨e, by simpa using ha⟩
  · exact .inr (.inl e)
  · rw [if_neg (by omega), if_neg (by omega), if_pos e] at ha
    simp only [Bool.and_eq_true, beq_iff_eq] at ha
    exact .inr (.inr ⟨e, ha.1, ha.2⟩)
theorem cue_nums {x : SCue} (h : vcuB x = true) : num (mkB (Lib.itoa x.Time)) = some x.Time ∧ num (mkB (Lib.itoa x.Value)) = some x.Value ∧ num (mkB (Lib.itoa x.Length)) = some x.Length := by
  have := vcuB_bd h
  exact ⟨num_itoa (by omega) (by omega), num_itoa (by omega) (by omega), num_itoa (by omega) (by omega)⟩
theorem CuOf.parts {s : ByteArray} {x : SCue} (h : CuOf s x) : ∃ t a N, splitS 32 s = x.Id :: t :: x.Target :: a :: N ∧ wordsS s = x.Id :: t :: x.Target :: a :: N ∧ okN t = true ∧ N.all okN = true ∧ x = cuMk x.Id (valN t) x.Target (cuK a N.length) (N.map valN) ∧ cuK2 a N.length = cuK a N.length := by
  obtain ⟨hv, rfl⟩ := h
  have hn := cue_nums hv
  have k1 := okN_of hn.1
  have k2 := okN_of hn.2.1
  have k3 := okN_of hn.2.2
  have e1 := cue_split hv
  have e2 := cue_words hv
  have hid : mkB x.Id.data.toList = x.Id := mkB_of _
  have htg : mkB x.Target.data.toList = x.Target := mkB_of _
  rcases vcuB_act hv with ⟨ha, hl⟩ | ha | ⟨ha, hl, hz⟩
  · have hw : (cuWords x).map mkB = [x.Id, mkB (Lib.itoa x.Time), x.Target, mkB wSet, mkB (Lib.itoa x.Value)] := by
      unfold cuWords cuTail; rw [if_pos ha]; simp only [List.map_cons, List.map_nil, hid, htg]
    rw [hw] at e1 e2
    refine ⟨_, _, _, e1, e2, k1.1, by simp [k2.1], ?_, ?_⟩
    · have : cuK (mkB wSet) [mkB (Lib.itoa x.Value)].length = 1 := by unfold cuK; rw [if_pos ⟨rfl, rfl⟩]
      rw [this, k1.2]
      unfold cuMk
      rw [if_neg (by decide), if_pos (by decide)]
      simp only [List.map_cons, List.getD_cons_zero, k2.2]
      obtain ⟨i, t, l, g, a, v⟩ := x
      simp only at ha hl
      subst ha hl
      rfl
    · unfold cuK cuK2; rw [if_pos ⟨rfl, rfl⟩, if_pos ⟨rfl, rfl⟩]
  · have hw : (cuWords x).map mkB = [x.Id, mkB (Lib.itoa x.Time), x.Target, mkB wFade, mkB (Lib.itoa x.Value), mkB (Lib.itoa x.Length)] := by
      unfold cuWords cuTail; rw [if_neg (by omega), if_pos ha]; simp only [List.map_cons, List.map_nil, hid, htg]
    rw [hw] at e1 e2
    have hne : ¬ (mkB wFade = mkB wSet) := fun e => by have := mkB_inj e; exact absurd this (by decide)
    refine ⟨_, _, _, e1, e2, k1.1, by simp [k2.1, k3.1], ?_, ?_⟩
    · have : cuK (mkB wFade) [mkB (Lib.itoa x.Value), mkB (Lib.itoa x.Length)].length = 2 := by unfold cuK; rw [if_neg (fun e => hne e.1), if_pos ⟨rfl, rfl⟩]
      rw [this, k1.2]
      unfold cuMk
      rw [if_pos rfl, if_pos (by decide)]
      simp only [List.map_cons, List.getD_cons_zero, List.getD_cons_succ, k2.2, k3.2]
      obtain ⟨i, t, l, g, a, v⟩ := x
      simp only at ha
      subst ha
      rfl
    · have b1 : cuK (mkB wFade) [mkB (Lib.itoa x.Value), mkB (Lib.itoa x.Length)].length = 2 := by unfold cuK; rw [if_neg (fun e => hne e.1), if_pos ⟨rfl, rfl⟩]
      have b2 : cuK2 (mkB wFade) [mkB (Lib.itoa x.Value), mkB (Lib.itoa x.Length)].length = 2 := by unfold cuK2; rw [if_neg (fun e => hne e.1), if_pos ⟨rfl, rfl⟩]
      rw [b1, b2]
  · have hw : (cuWords x).map mkB = [x.Id, mkB (Lib.itoa x.Time), x.Target, mkB wStop] := by
      unfold cuWords cuTail; rw [if_neg (by omega), if_neg (by omega)]; simp only [List.map_cons, List.map_nil, hid, htg]
    rw [hw] at e1 e2
    have hne : ¬ (mkB wStop = mkB wSet) := fun e => by have := mkB_inj e; exact absurd this (by decide)
    have hne2 : ¬ (mkB wStop = mkB wFade) := fun e => by have := mkB_inj e; exact absurd this (by decide)
    refine ⟨_, _, _, e1, e2, k1.1, rfl, ?_, ?_⟩
    · have : cuK (mkB wStop) ([] : List ByteArray).length = 3 := by unfold cuK; rw [if_neg (fun e => hne e.1), if_neg (fun e => hne2 e.1), if_pos ⟨rfl, rfl⟩]
      rw [this, k1.2]
      unfold cuMk
      rw [if_neg (by decide), if_neg (by decide)]
      obtain ⟨i, t, l, g, a, v⟩ := x
      simp only at ha hl hz
      subst ha hl hz
      rfl
    · have b1 : cuK (mkB wStop) ([] : List ByteArray).length = 3 := by unfold cuK; rw [if_neg (fun e => hne e.1), if_neg (fun e => hne2 e.1), if_pos ⟨rfl, rfl⟩]
      have b2 : cuK2 (mkB wStop) ([] : List ByteArray).length = 3 := by unfold cuK2; rw [if_neg (fun e => hne e.1), if_neg (fun e => hne2 e.1), if_pos rfl]
      rw [b1, b2]
theorem CuOf.uniq {s : ByteArray} {x x2 : SCue} (h : CuOf s x) (k : CuOf s x2) : x = x2 := by
  obtain ⟨t, a, N, h1, -, -, -, e1, -⟩ := h.parts
  obtain ⟨t2, a2, N2, k1, -, -, -, e2, -⟩ := k.parts
  rw [h1] at k1
  simp only [List.cons.injEq] at k1
  obtain ⟨c1, rfl, c2, rfl, rfl⟩ := k1
  rw [e1, e2, c1, c2]
open Classical in
noncomputable def rcuR (s : ByteArray) : SCue × Bool := if h : ∃ x, CuOf s x then (h.choose, true) else (cuZ, false)
theorem rcuR_of {s : ByteArray} {x : SCue} (h : CuOf s x) : rcuR s = (x, true) := by
  unfold rcuR
  rw [dif_pos ⟨x, h⟩]
  congr 1
  exact CuOf.uniq (Exists.choose_spec (⟨x, h⟩ : ∃ x, CuOf s x)) h
theorem rcuR_no {s : ByteArray} (h : ∀ x, ¬ CuOf s x) : rcuR s = (cuZ, false) := by
  unfold rcuR
  rw [dif_neg (fun ⟨x, e⟩ => h x e)]
theorem rcuR_yes {s : ByteArray} (h : (rcuR s).2 = true) : CuOf s (rcuR s).1 := by
  by_cases e : ∃ x, CuOf s x
  · obtain ⟨x, hx⟩ := e
    rw [rcuR_of hx]
    exact hx
  · rw [rcuR_no (fun x hx => e ⟨x, hx⟩)] at h
    cases h
theorem cu_lenS {s : ByteArray} (h : (splitS 32 s).length < 4) : rcuR s = (cuZ, false) := rcuR_no fun x hx => by
  obtain ⟨t, a, N, h1, -⟩ := hx.parts
  rw [h1] at h
  simp at h
  omega
theorem cu_lenW {s : ByteArray} (h : (wordsS s).length < 4) : rcuR s = (cuZ, false) := rcuR_no fun x hx => by
  obtain ⟨t, a, N, -, h1, -⟩ := hx.parts
  rw [h1] at h
  simp at h
  omega
theorem okN_itoa {x : ByteArray} (h : okN x = true) : Lib.itoa (valN x) = x.data.toList := by
  have := (num_some (num_okN h)).2.2
  simpa only [mkB_data] using congrArg (fun t : ByteArray => t.data.toList) this
theorem split_back {s : ByteArray} {P : List ByteArray} (h : splitS 32 s = P) : s = mkB (joinL 32 (P.map fun y => y.data.toList)) := by
  have := join_split 32 s.data.toList
  have e : splitL 32 s.data.toList = P.map fun y => y.data.toList := by
    refine map_inj' (fun _ _ => mkB_inj) ?_
    rw [List.map_map]
    have k : (mkB ∘ fun y : ByteArray => y.data.toList) = id := funext fun y => mkB_of y
    rw [k, List.map_id]
    exact h
  rw [← e, this, mkB_of]
theorem two_len {α : Type} {L : List α} (h : L.length = 2) : ∃ a b, L = [a, b] := by
  rcases L with _ | ⟨a, _ | ⟨b, _ | ⟨c, r⟩⟩⟩
  · simp at h
  · simp at h
  · exact ⟨a, b, rfl⟩
  · simp at h
theorem cuMk_act (i : ByteArray) (t : Int) (g : ByteArray) (k : Int) (v : List Int) : (cuMk i t g k v).Action = k := rfl
theorem cu_eqS {s i t g a : ByteArray} {N : List ByteArray} (h : splitS 32 s = i :: t :: g :: a :: N) : rcuR s = if okN t = true ∧ N.all okN = true ∧ vcuB (cuMk i (valN t) g (cuK a N.length) (N.map valN)) = true then (cuMk i (valN t) g (cuK a N.length) (N.map valN), true) else (cuZ, false) := by
  by_cases hc : okN t = true ∧ N.all okN = true ∧ vcuB (cuMk i (valN t) g (cuK a N.length) (N.map valN)) = true
  · rw [if_pos hc]
    obtain ⟨h1, h2, h3⟩ := hc
    refine rcuR_of ⟨h3, ?_⟩
    rw [cueT_L]
    rw [split_back h]
    congr 1
    have hk := vcuB_act h3
    simp only [cuMk_act] at hk
    have e1 := okN_itoa h1
    have hcase : (a = mkB wSet ∧ N.length = 1) ∨ (a = mkB wFade ∧ N.length = 2) ∨ (a = mkB wStop ∧ N.length = 0) := by
      unfold cuK at hk
      split at hk
      · exact .inl ‹_›
      · split at hk
        · exact .inr (.inl ‹_›)
        · split at hk
          · exact .inr (.inr ‹_›)
          · omega
    have n1 : ¬ (mkB wFade = mkB wSet) := fun e => by have := mkB_inj e; exact absurd this (by decide)
    have n2 : ¬ (mkB wStop = mkB wSet) := fun e => by have := mkB_inj e; exact absurd this (by decide)
    have n3 : ¬ (mkB wStop = mkB wFade) := fun e => by have := mkB_inj e; exact absurd this (by decide)
    rcases hcase with ⟨rfl, hl⟩ | ⟨rfl, hl⟩ | ⟨rfl, hl⟩
    · obtain ⟨y, rfl⟩ := List.length_eq_one_iff.1 hl
      have ek : cuK (mkB wSet) [y].length = 1 := by unfold cuK; rw [if_pos ⟨rfl, rfl⟩]
      rw [ek]
      simp only [List.all_cons, List.all_nil, Bool.and_true] at h2
      have e2 := okN_itoa h2
      unfold cuMk cuWords cuTail
      simp only [List.map_cons, List.map_nil, List.getD_cons_zero, if_true, true_or, e1, e2, mkB_data]
    · obtain ⟨y, z, rfl⟩ := two_len hl
      have ek : cuK (mkB wFade) [y, z].length = 2 := by unfold cuK; rw [if_neg (fun e => n1 e.1), if_pos ⟨rfl, rfl⟩]
      rw [ek]
      simp only [List.all_cons, List.all_nil, Bool.and_true, Bool.and_eq_true] at h2
      have e2 := okN_itoa h2.1
      have e3 := okN_itoa h2.2
      unfold cuMk cuWords cuTail
      rw [if_pos rfl, if_pos (by decide)]
      simp only
      rw [if_neg (by decide), if_pos trivial]
      simp only [List.map_cons, List.map_nil, List.getD_cons_zero, List.getD_cons_succ, e1, e2, e3, mkB_data]
    · obtain rfl := List.length_eq_zero_iff.1 hl
      have ek : cuK (mkB wStop) ([] : List ByteArray).length = 3 := by unfold cuK; rw [if_neg (fun e => n2 e.1), if_neg (fun e => n3 e.1), if_pos ⟨rfl, rfl⟩]
      rw [ek]
      unfold cuMk cuWords cuTail
      simp only
      rw [if_neg (by decide), if_neg (by decide)]
      simp only [List.map_cons, List.map_nil, e1, mkB_data]
  · rw [if_neg hc]
    refine rcuR_no fun x hx => hc ?_
    obtain ⟨t', a', N', k1, -, o1, o2, e, -⟩ := hx.parts
    rw [h] at k1
    simp only [List.cons.injEq] at k1
    obtain ⟨c1, rfl, c2, rfl, rfl⟩ := k1
    refine ⟨o1, o2, ?_⟩
    rw [c1, c2, ← e]
    exact hx.1
theorem cu_eqW {s i t g a : ByteArray} {N : List ByteArray} (h : wordsS s = i :: t :: g :: a :: N) : rcuR s = if okN t = true ∧ N.all okN = true ∧ vcuB (cuMk i (valN t) g (cuK2 a N.length) (N.map valN)) = true ∧ cueT (cuMk i (valN t) g (cuK2 a N.length) (N.map valN)) = s then (cuMk i (valN t) g (cuK2 a N.length) (N.map valN), true) else (cuZ, false) := by
  by_cases hc : okN t = true ∧ N.all okN = true ∧ vcuB (cuMk i (valN t) g (cuK2 a N.length) (N.map valN)) = true ∧ cueT (cuMk i (valN t) g (cuK2 a N.length) (N.map valN)) = s
  · rw [if_pos hc]
    exact rcuR_of ⟨hc.2.2.1, hc.2.2.2⟩
  · rw [if_neg hc]
    refine rcuR_no fun x hx => hc ?_
    obtain ⟨t', a', N', -, k1, o1, o2, e, ek⟩ := hx.parts
    rw [h] at k1
    simp only [List.cons.injEq] at k1
    obtain ⟨c1, rfl, c2, rfl, rfl⟩ := k1
    refine ⟨o1, o2, ?_, ?_⟩
    · rw [c1, c2, ek, ← e]
      exact hx.1
    · rw [c1, c2, ek, ← e]
      exact hx.2
end Go.Proofs.YtecakcgkibemaaaGreatDoor
