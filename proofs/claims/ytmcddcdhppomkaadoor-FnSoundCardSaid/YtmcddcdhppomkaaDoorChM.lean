/-
  Plain laws of the text of a channel.
-/
import Derived.Test.YtmcddcdhppomkaaDoorTxtM
import Derived.Test.YtmcddcdhppomkaaDoorChText
namespace Go.Proofs.YtmcddcdhppomkaaDoor
open Go.RowKit

theorem name_free {s : ByteArray} (h : nameB s = true) {c : UInt8} (hc : wordB c = false) : c ∉ s.data.toList := fun hm => by
  simp only [nameB, Bool.and_eq_true] at h
  have := List.all_eq_true.1 h.2 c hm
  rw [hc] at this
  cases this
theorem dec_mkB (n : Int) : dec n = mkB (Lib.itoa n) := rfl
def muteL : List UInt8 := [109, 117, 116, 101]
def chPL (x : SChannel) : List (List UInt8) := x.Name.data.toList :: Lib.itoa x.Gain :: Lib.itoa x.Pan :: (if x.Muted = true then [muteL] else [])
def chP (x : SChannel) : List ByteArray := x.Name :: mkB (Lib.itoa x.Gain) :: mkB (Lib.itoa x.Pan) :: (if x.Muted = true then [mkB muteL] else [])
theorem chP_L (x : SChannel) : (chPL x).map mkB = chP x := by
  unfold chPL chP
  simp only [List.map_cons, mkB_of]
  cases x.Muted <;> simp
theorem chT_join (x : SChannel) : chT x = mkB (joinL 32 (chPL x)) := by
  unfold chT chS chPL
  rw [dec_mkB, dec_mkB]
  conv => lhs; rw [← mkB_of x.Name]
  rw [show (⟨#[32]⟩ : ByteArray) = mkB [32] from rfl, show (⟨#[32, 109, 117, 116, 101]⟩ : ByteArray) = mkB (32 :: muteL) from rfl]
  cases x.Muted
  · simp only [Bool.false_eq_true, if_false, joinL, mkB_append, List.append_assoc, List.cons_append, List.nil_append]
  · simp only [if_true, joinL, mkB_append, List.append_assoc, List.cons_append, List.nil_append]
theorem ch_split {x : SChannel} (h : vcB x = true) : splitS 32 (chT x) = chP x := by
  have hn : nameB x.Name = true := by simp only [vcB, Bool.and_eq_true] at h; exact h.1.1
  unfold splitS
  rw [chT_join, mkB_data, split_join 32 _ (by simp [chPL]) (fun y hy => ?_), chP_L]
  unfold chPL at hy
  simp only [List.mem_cons] at hy
  rcases hy with rfl | rfl | rfl | hy
  · exact name_free hn (by decide)
  · exact itoa_free (by decide) (by decide)
  · exact itoa_free (by decide) (by decide)
  · split at hy
    · simp only [List.mem_singleton] at hy; subst hy; decide
    · simp at hy
theorem ch_words {x : SChannel} (h : vcB x = true) : wordsS (chT x) = chP x := by
  have e := ch_split h
  rw [words_full, e]
  intro y hy
  rw [e] at hy
  have hn : nameB x.Name = true := by simp only [vcB, Bool.and_eq_true] at h; exact h.1.1
  unfold chP at hy
  simp only [List.mem_cons] at hy
  have hi : ∀ n : Int, (mkB (Lib.itoa n)).size ≠ 0 := fun n => by
    rw [mkB_size]
    exact fun h0 => itoa_ne n (List.eq_nil_of_length_eq_zero h0)
  rcases hy with rfl | rfl | rfl | hy
  · have := nameB_size hn; omega
  · exact hi _
  · exact hi _
  · split at hy
    · simp only [List.mem_singleton] at hy; subst hy; decide
    · simp at hy
def chZ : SChannel := ⟨⟨#[]⟩, 0, 0, false⟩
def ChOf (s : ByteArray) (x : SChannel) : Prop := vcB x = true ∧ chT x = s
theorem chP_inj {x y : SChannel} (h : chP x = chP y) : x = y := by
  obtain ⟨a1, a2, a3, a4⟩ := x
  obtain ⟨b1, b2, b3, b4⟩ := y
  unfold chP at h
  simp only [List.cons.injEq] at h
  obtain ⟨h1, h2, h3, h4⟩ := h
  have e2 := itoa_inj (mkB_inj h2)
  have e3 := itoa_inj (mkB_inj h3)
  have e4 : a4 = b4 := by
    cases a4 <;> cases b4 <;> simp at h4 ⊢
  subst h1 e2 e3 e4
  rfl
open Classical in
noncomputable def rcR (s : ByteArray) : SChannel × Bool := if h : ∃ x, ChOf s x then (h.choose, true) else (chZ, false)
theorem rcR_of {s : ByteArray} {x : SChannel} (h : ChOf s x) : rcR s = (x, true) := by
  unfold rcR
  rw [dif_pos ⟨x, h⟩]
  congr 1
  have k := Exists.choose_spec (⟨x, h⟩ : ∃ x, ChOf s x)
  have e1 := ch_split k.1
  have e2 := ch_split h.1
  rw [h.2] at e2
  rw [k.2] at e1
  exact chP_inj (e1.symm.trans e2)
theorem rcR_no {s : ByteArray} (h : ∀ x, ¬ ChOf s x) : rcR s = (chZ, false) := by
  unfold rcR
  rw [dif_neg (fun ⟨x, e⟩ => h x e)]
theorem ch_nums {x : SChannel} (h : vcB x = true) : num (mkB (Lib.itoa x.Gain)) = some x.Gain ∧ num (mkB (Lib.itoa x.Pan)) = some x.Pan := by
  obtain ⟨h1, h2, _⟩ := vcB_in h
  exact ⟨num_itoa (by omega) (by omega), num_itoa (by omega) (by omega)⟩
/-! The reference's road. -/
theorem rc_len {s : ByteArray} (h : (splitS 32 s).length ≠ 3) (h4 : (splitS 32 s).length ≠ 4) : rcR s = (chZ, false) := rcR_no fun x hx => by
  have e := ch_split hx.1
  rw [hx.2] at e
  rw [e] at h h4
  unfold chP at h h4
  cases hm : x.Muted
  · rw [hm] at h; simp at h
  · rw [hm] at h4; simp at h4
theorem rc_mute {s a b c d : ByteArray} (h : splitS 32 s = [a, b, c, d]) (hd : d ≠ mkB muteL) : rcR s = (chZ, false) := rcR_no fun x hx => by
  have e := ch_split hx.1
  rw [hx.2, h] at e
  unfold chP at e
  cases hm : x.Muted
  · rw [hm] at e; simp at e
  · rw [hm] at e
    simp only [if_true, List.cons.injEq, and_true] at e
    exact hd e.2.2.2
theorem rc_eq {s nm g p : ByteArray} {mu : Bool} (h : splitS 32 s = nm :: g :: p :: (if mu = true then [mkB muteL] else [])) :
    rcR s = if okN g = true ∧ okN p = true ∧ vcB ⟨nm, valN g, valN p, mu⟩ = true then (⟨nm, valN g, valN p, mu⟩, true) else (chZ, false) := by
  by_cases hc : okN g = true ∧ okN p = true ∧ vcB ⟨nm, valN g, valN p, mu⟩ = true
  · rw [if_pos hc]
    refine rcR_of ⟨hc.2.2, ?_⟩
    have e1 := num_some (num_okN hc.1)
    have e2 := num_some (num_okN hc.2.1)
    rw [chT_join]
    have : chPL ⟨nm, valN g, valN p, mu⟩ = splitL 32 s.data.toList := by
      refine map_inj' (fun _ _ => mkB_inj) ?_
      rw [chP_L]
      show chP _ = splitS 32 s
      rw [h]
      unfold chP
      rw [e1.2.2, e2.2.2]
    rw [this, join_split, mkB_of]
  · rw [if_neg hc]
    refine rcR_no fun x hx => hc ?_
    have e := ch_split hx.1
    rw [hx.2, h] at e
    have hn := ch_nums hx.1
    unfold chP at e
    simp only [List.cons.injEq] at e
    obtain ⟨e1, e2, e3, e4⟩ := e
    have k1 := okN_of hn.1
    have k2 := okN_of hn.2
    rw [← e2] at k1
    rw [← e3] at k2
    refine ⟨k1.1, k2.1, ?_⟩
    have em : mu = x.Muted := by
      cases mu <;> cases hm : x.Muted <;> rw [hm] at e4 <;> simp at e4 ⊢
    rw [k1.2, k2.2, e1, em]
    exact hx.1
/-! The program's road. -/
theorem rc_short {s : ByteArray} (h : (wordsS s).length < 3) : rcR s = (chZ, false) := rcR_no fun x hx => by
  have e := ch_words hx.1
  rw [hx.2] at e
  rw [e] at h
  unfold chP at h
  cases hm : x.Muted <;> rw [hm] at h <;> simp at h
theorem rc_words {s nm g p : ByteArray} {r : List ByteArray} (h : wordsS s = nm :: g :: p :: r) :
    rcR s = if okN g = true ∧ okN p = true ∧ vcB ⟨nm, valN g, valN p, r.length == 1⟩ = true ∧ chT ⟨nm, valN g, valN p, r.length == 1⟩ = s then (⟨nm, valN g, valN p, r.length == 1⟩, true) else (chZ, false) := by
  by_cases hc : okN g = true ∧ okN p = true ∧ vcB ⟨nm, valN g, valN p, r.length == 1⟩ = true ∧ chT ⟨nm, valN g, valN p, r.length == 1⟩ = s
  · rw [if_pos hc]
    exact rcR_of ⟨hc.2.2.1, hc.2.2.2⟩
  · rw [if_neg hc]
    refine rcR_no fun x hx => hc ?_
    have e := ch_words hx.1
    rw [hx.2, h] at e
    have hn := ch_nums hx.1
    unfold chP at e
    simp only [List.cons.injEq] at e
    obtain ⟨e1, e2, e3, e4⟩ := e
    have k1 := okN_of hn.1
    have k2 := okN_of hn.2
    rw [← e2] at k1
    rw [← e3] at k2
    have em : (r.length == 1) = x.Muted := by
      rw [e4]
      cases x.Muted <;> rfl
    have ex : (⟨nm, valN g, valN p, r.length == 1⟩ : SChannel) = x := by rw [k1.2, k2.2, e1, em]
    rw [ex]
    exact ⟨k1.1, k2.1, hx.1, hx.2⟩
end Go.Proofs.YtmcddcdhppomkaaDoor
