/-
  Plain words: two sounds mixed out of channels. No function in sight.
-/
import Derived.Test.YtmcddcdhppomkaaDoorChannels
import Derived.Test.YtmcddcdhppomkaaDoorSamples
import Derived.Test.YtmcddcdhppomkaaDoorFactor
import Derived.Test.YtmcddcdhppomkaaDoorPan
import Derived.Test.YtmcddcdhppomkaaDoorRowMem
namespace Go.Proofs.YtmcddcdhppomkaaDoor
open Go.RowKit

/-- A row's front gets a row's numbers added, each through g. -/
def addP (g : Int → Int) : List Int → List Int → List Int
  | o :: os, x :: xs => (o + g x) :: addP g os xs
  | os, _ => os
theorem addP_len (g : Int → Int) : ∀ (os xs : List Int), (addP g os xs).length = os.length
  | [], [] => rfl
  | [], _ :: _ => rfl
  | _ :: _, [] => rfl
  | o :: os, x :: xs => by simp [addP, addP_len g os xs]
theorem addP_nil (g : Int → Int) (os : List Int) : addP g os [] = os := by cases os <;> rfl
theorem addP_at (g : Int → Int) : ∀ (os xs : List Int) (k : Nat), (addP g os (xs.take k))[k]? = os[k]?
  | [], [], k => by simp [addP]
  | [], _ :: _, k => by cases k <;> simp [addP]
  | _ :: _, [], k => by simp [addP]
  | o :: os, x :: xs, 0 => by simp [addP]
  | o :: os, x :: xs, k + 1 => by simp [addP, addP_at g os xs k]
theorem addP_step (g : Int → Int) : ∀ (os xs : List Int) (k : Nat) (o x : Int), os[k]? = some o → xs[k]? = some x → (addP g os (xs.take k)).set k (o + g x) = addP g os (xs.take (k + 1))
  | [], _, k, o, x, h, _ => by simp at h
  | _ :: _, [], k, o, x, _, h => by simp at h
  | a :: os, b :: xs, 0, o, x, h1, h2 => by
    simp only [List.getElem?_cons_zero, Option.some.injEq] at h1 h2
    subst h1 h2
    simp [addP, addP_nil]
  | a :: os, b :: xs, k + 1, o, x, h1, h2 => by
    simp only [List.getElem?_cons_succ] at h1 h2
    simp [addP, addP_step g os xs k o x h1 h2]
def bdL (B : Int) (L : List Int) : Prop := ∀ x ∈ L, -B ≤ x ∧ x ≤ B
theorem bdL_at {B : Int} {L : List Int} (h : bdL B L) {k : Nat} {x : Int} (hx : L[k]? = some x) : -B ≤ x ∧ x ≤ B := h x (List.mem_of_getElem? hx)
theorem addP_bd {g : Int → Int} {B C : Int} (hC : 0 ≤ C) : ∀ {os xs : List Int}, bdL B os → (∀ x ∈ xs, -C ≤ g x ∧ g x ≤ C) → bdL (B + C) (addP g os xs)
  | [], [], _, _ => fun x hx => by simp [addP] at hx
  | [], _ :: _, _, _ => fun x hx => by simp [addP] at hx
  | o :: os, [], h, _ => fun x hx => by have := h x (by simpa [addP] using hx); omega
  | o :: os, y :: xs, h, h2 => fun x hx => by
    simp only [addP, List.mem_cons] at hx
    rcases hx with rfl | hx
    · have a := h o (by simp)
      have b := h2 y (by simp)
      omega
    · exact addP_bd hC (fun z hz => h z (by simp [hz])) (fun z hz => h2 z (by simp [hz])) x hx
/-- What a sample adds to a side. -/
def mxV (s : Int → Int) (c : SChannel) (x : Int) : Int := near (near (x * gf c.Gain) 1000000 * s c.Pan) 1000000
def mxStep (s : Int → Int) (out : List Int) (p : SChannel × List Int) : List Int := if p.1.Muted = true then out else addP (mxV s p.1) out p.2
def mxSt (s : Int → Int) (n : Nat) (Z : List (SChannel × List Int)) : List Int := Z.foldl (mxStep s) (List.replicate n 0)
def mostL (M : List (List Int)) : Nat := M.foldl (fun m r => max m r.length) 0
def clipN (n : Int) : Int := max (-32767) (min 32767 n)
def mxL (s : Int → Int) (L : List SChannel) (M : List (List Int)) : List Int := (mxSt s (mostL M) (L.zip M)).map clipN
def mixR (L : List SChannel) (M : List (List Int)) : List Int × List Int × Int :=
  if vcs L = false then ([], [], 1) else if M.all vs = false then ([], [], 1) else if M.length = L.length then (mxL panC L M, mxL panS L M, 0) else ([], [], 7)
theorem mostL_snoc {M : List (List Int)} {k : Nat} {r : List Int} (h : M[k]? = some r) : mostL (M.take (k + 1)) = max (mostL (M.take k)) r.length := by
  unfold mostL
  rw [take_snoc h, List.foldl_append]
  rfl
theorem mostL_bd {M : List (List Int)} (h : M.all vs = true) : ∀ k, mostL (M.take k) ≤ 64
  | 0 => by simp [mostL]
  | k + 1 => by
    cases hr : M[k]? with
    | none =>
      rw [List.take_of_length_le (by have := List.getElem?_eq_none_iff.1 hr; omega), ← List.take_of_length_le (i := k) (List.getElem?_eq_none_iff.1 hr)]
      exact mostL_bd h k
    | some r =>
      rw [mostL_snoc hr]
      have := mostL_bd h k
      have := (vs_all (all_at h hr)).1
      omega
theorem foldl_max_le (M : List (List Int)) : ∀ m, m ≤ M.foldl (fun m r => max m r.length) m := by
  induction M with
  | nil => intro m; exact Nat.le_refl _
  | cons r M ih => intro m; exact Nat.le_trans (Nat.le_max_left _ _) (ih _)
theorem mostL_le {M : List (List Int)} {k : Nat} {r : List Int} (h : M[k]? = some r) : r.length ≤ mostL M := by
  have key : ∀ (M : List (List Int)) (m : Nat), r ∈ M → r.length ≤ M.foldl (fun m r => max m r.length) m := by
    intro M
    induction M with
    | nil => intro m hm; simp at hm
    | cons q M ih =>
      intro m hm
      simp only [List.mem_cons] at hm
      rcases hm with rfl | hm
      · exact Nat.le_trans (Nat.le_max_right _ _) (foldl_max_le M _)
      · exact ih _ hm
  exact key M 0 (List.mem_of_getElem? h)
theorem mxSt_snoc {s : Int → Int} {n k : Nat} {Z : List (SChannel × List Int)} {p : SChannel × List Int} (h : Z[k]? = some p) : mxSt s n (Z.take (k + 1)) = mxStep s (mxSt s n (Z.take k)) p := by
  unfold mxSt
  rw [take_snoc h, List.foldl_append]
  rfl
theorem mxSt_zero (s : Int → Int) (n : Nat) (Z : List (SChannel × List Int)) : mxSt s n (Z.take 0) = List.replicate n 0 := rfl
theorem mxSt_len (s : Int → Int) (n : Nat) : ∀ Z : List (SChannel × List Int), (mxSt s n Z).length = n := by
  have key : ∀ (Z : List (SChannel × List Int)) (o : List Int), (Z.foldl (mxStep s) o).length = o.length := by
    intro Z
    induction Z with
    | nil => intro o; rfl
    | cons p Z ih =>
      intro o
      rw [List.foldl_cons, ih]
      unfold mxStep
      split
      · rfl
      · exact addP_len _ _ _
  intro Z
  unfold mxSt
  rw [key, List.length_replicate]
theorem zipC_at {L : List SChannel} {M : List (List Int)} {k : Nat} {x : SChannel} {r : List Int} (hx : L[k]? = some x) (hr : M[k]? = some r) : (L.zip M)[k]? = some (x, r) := by
  rw [List.getElem?_zip_eq_some]
  exact ⟨hx, hr⟩
theorem near_in {a b A : Int} (hb : 0 < b) (h0 : -(A * b) ≤ a) (h1 : a ≤ A * b) : -A ≤ near a b ∧ near a b ≤ A := by
  have key : ∀ x : Int, 0 ≤ x → x ≤ A * b → 0 ≤ (2 * x + b) / (2 * b) ∧ (2 * x + b) / (2 * b) ≤ A := by
    intro x h0 h1
    refine ⟨Int.ediv_nonneg (by omega) (by omega), ?_⟩
    have : (2 * x + b) / (2 * b) < A + 1 := by
      apply Int.ediv_lt_of_lt_mul (by omega)
      have h2 : (A + 1) * (2 * b) = 2 * (A * b) + 2 * b := by rw [Int.add_mul, Int.one_mul, Int.mul_left_comm]
      omega
    omega
  by_cases h : a < 0
  · rw [near_mirror h, near_pos (by omega)]
    have := key (-a) (by omega) (by omega)
    omega
  · rw [near_pos (by omega)]
    have := key a (by omega) h1
    omega
theorem sd_mul {x y X Y : Int} (hx : -X ≤ x ∧ x ≤ X) (hy : -Y ≤ y ∧ y ≤ Y) : -(X * Y) ≤ x * y ∧ x * y ≤ X * Y := by
  by_cases h : 0 ≤ y
  · exact mul_bd hx ⟨h, hy.2⟩
  · have h1 := mul_bd (X := X) (Y := Y) (x := x) (y := -y) hx ⟨by omega, by omega⟩
    rw [Int.mul_neg] at h1
    omega
/-- The numbers of one sample: the product, the sample in the channel's strength, its product with a side's factor, what it adds. -/
theorem mx_parts {s : Int → Int} {c : SChannel} {x : Int} (hs : ∀ p, -1000000 ≤ s p ∧ s p ≤ 1000000) (hx : -32767 ≤ x ∧ x ≤ 32767) (hg : -6000 ≤ c.Gain ∧ c.Gain ≤ 600) :
    (-62257300000000 ≤ x * gf c.Gain ∧ x * gf c.Gain ≤ 62257300000000) ∧ (-62257300 ≤ near (x * gf c.Gain) 1000000 ∧ near (x * gf c.Gain) 1000000 ≤ 62257300) ∧
    (-62257300000000 ≤ near (x * gf c.Gain) 1000000 * s c.Pan ∧ near (x * gf c.Gain) 1000000 * s c.Pan ≤ 62257300000000) ∧ (-62257300 ≤ mxV s c x ∧ mxV s c x ≤ 62257300) := by
  have h1 := sd_mul hx (gf_bd c.Gain hg.1 hg.2)
  have h2 := near_in (a := x * gf c.Gain) (b := 1000000) (A := 62257300) (by omega) (by omega) (by omega)
  have h3 := sd_mul h2 (hs c.Pan)
  have h4 := near_in (a := near (x * gf c.Gain) 1000000 * s c.Pan) (b := 1000000) (A := 62257300) (by omega) (by omega) (by omega)
  exact ⟨⟨by omega, by omega⟩, h2, ⟨by omega, by omega⟩, h4⟩
theorem vcB_bd {x : SChannel} (h : vcB x = true) : (-6000 ≤ x.Gain ∧ x.Gain ≤ 600) ∧ -1000 ≤ x.Pan ∧ x.Pan ≤ 1000 := by
  unfold vcB at h
  simp only [Bool.and_eq_true] at h
  exact ⟨inB_iff.1 h.1.2, inB_iff.1 h.2⟩
theorem vcs_at {L : List SChannel} (h : vcs L = true) {k : Nat} {x : SChannel} (hx : L[k]? = some x) : vcB x = true := by
  unfold vcs at h
  simp only [Bool.and_eq_true] at h
  exact chk_all h.2 hx
theorem vcs_len {L : List SChannel} (h : vcs L = true) : L.length ≤ 8 := by
  unfold vcs at h
  simp only [Bool.and_eq_true, decide_eq_true_eq] at h
  exact h.1
/-- The sums stay small. -/
theorem mxSt_bd {s : Int → Int} (hs : ∀ p, -1000000 ≤ s p ∧ s p ≤ 1000000) {L : List SChannel} {M : List (List Int)} (hv : vcs L = true) (ha : M.all vs = true) (n : Nat) : ∀ k : Nat, bdL (62257300 * k) (mxSt s n ((L.zip M).take k))
  | 0 => fun x hx => by
    simp only [mxSt, List.take_zero, List.foldl_nil] at hx
    have := List.eq_of_mem_replicate hx
    omega
  | k + 1 => by
    have ih := mxSt_bd hs hv ha n k
    have big : bdL (62257300 * (k + 1 : Nat)) (mxSt s n ((L.zip M).take k)) := fun x hx => by have := ih x hx; omega
    cases hp : (L.zip M)[k]? with
    | none =>
      have hk := List.getElem?_eq_none_iff.1 hp
      rw [List.take_of_length_le hk] at ih big
      rw [List.take_of_length_le (by omega)]
      exact big
    | some p =>
      rw [mxSt_snoc hp]
      obtain ⟨x, r⟩ := p
      have hp2 := hp
      rw [List.getElem?_zip_eq_some] at hp2
      have hb := vcB_bd (vcs_at hv hp2.1)
      have hr := all_at ha hp2.2
      unfold mxStep
      split
      · exact big
      · have := addP_bd (B := 62257300 * k) (C := 62257300) (by omega) ih (xs := r) (g := mxV s x) (fun y hy => (mx_parts hs (by
          obtain ⟨i, hi⟩ := List.getElem?_of_mem hy
          exact vs_at hr hi) hb.1).2.2.2)
        intro z hz
        have := this z hz
        omega
theorem mxL_len (s : Int → Int) (L : List SChannel) (M : List (List Int)) : (mxL s L M).length = mostL M := by simp [mxL, mxSt_len]
theorem mixR_len (L : List SChannel) (M : List (List Int)) : (mixR L M).1.length ≤ 64 ∧ (mixR L M).2.1.length ≤ 64 := by
  unfold mixR
  split
  · simp
  · split
    · simp
    · rename_i h
      split
      · have := mostL_bd (M := M) (by simpa using h) M.length
        rw [List.take_of_length_le (Nat.le_refl _)] at this
        simp only [mxL_len]
        exact ⟨this, this⟩
      · simp
/-- The last loop: k numbers clipped. -/
theorem clip_step {O : List Int} {k : Nat} {x : Int} (h : O[k]? = some x) : ((O.take k).map clipN ++ O.drop k).set k (clipN x) = (O.take (k + 1)).map clipN ++ O.drop (k + 1) := by
  obtain ⟨hk, rfl⟩ := List.getElem?_eq_some_iff.1 h
  rw [take_snoc h, List.map_append, List.set_append_right _ _ (by simp; omega), List.drop_eq_getElem_cons hk]
  rw [show k - ((O.take k).map clipN).length = 0 by simp; omega, List.set_cons_zero, List.append_assoc]
  rfl
theorem clip_at {O : List Int} {k : Nat} {x : Int} (h : O[k]? = some x) : ((O.take k).map clipN ++ O.drop k)[k]? = some x := by
  obtain ⟨hk, rfl⟩ := List.getElem?_eq_some_iff.1 h
  rw [List.getElem?_append_right (by simp; omega), show k - ((O.take k).map clipN).length = 0 by simp; omega, List.getElem?_drop]
  exact h
end Go.Proofs.YtmcddcdhppomkaaDoor
