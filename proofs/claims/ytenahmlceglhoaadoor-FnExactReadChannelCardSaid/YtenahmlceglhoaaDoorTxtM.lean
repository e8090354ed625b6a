/-
  Plain laws of texts: texts cut at a byte and joined, numbers spelt and read. No program in sight.
-/
import Derived.Test.YtenahmlceglhoaaDoorMath
import Derived.Lib.SplitLaws
import Derived.Lib.ItoaNum
import Derived.Lib.ItoaLen
import Derived.Lib.ParseIntBTie
import Derived.Lib.Strings
import Derived.Lib.Atoi
namespace Go.Proofs.YtenahmlceglhoaaDoor
open Go.RowKit

theorem map_inj' {α β : Type} {f : α → β} (hf : ∀ a b, f a = f b → a = b) : ∀ {L M : List α}, L.map f = M.map f → L = M
  | [], [], _ => rfl
  | [], y :: M, h => by simp at h
  | x :: L, [], h => by simp at h
  | x :: L, y :: M, h => by
    simp only [List.map_cons, List.cons.injEq] at h
    rw [hf _ _ h.1, map_inj' hf h.2]
/-- Bytes as a text. -/
def mkB (l : List UInt8) : ByteArray := ⟨l.toArray⟩
theorem mkB_data (l : List UInt8) : (mkB l).data.toList = l := by simp [mkB]
theorem mkB_of (s : ByteArray) : mkB s.data.toList = s := by obtain ⟨⟨l⟩⟩ := s; rfl
theorem mkB_inj {a b : List UInt8} (h : mkB a = mkB b) : a = b := by rw [← mkB_data a, h, mkB_data]
theorem mkB_size (l : List UInt8) : (mkB l).size = l.length := by simp [mkB, ByteArray.size]
theorem mkB_append (a b : List UInt8) : mkB a ++ mkB b = mkB (a ++ b) := by apply ByteArray.ext; rw [ByteArray.data_append]; exact (Array.toList_inj.1 (by rw [Array.toList_append, mkB_data, mkB_data, mkB_data]))
theorem size_data (s : ByteArray) : s.data.toList.length = s.size := by rw [Array.length_toList]; rfl
theorem extract_data (s : ByteArray) (a b : Nat) : (s.extract a b).data.toList = (s.data.toList.drop a).take (b - a) := by
  obtain ⟨⟨l⟩⟩ := s
  rw [ByteArray.extract_mk]
theorem extract_mkB (s : ByteArray) (a b : Nat) : s.extract a b = mkB ((s.data.toList.drop a).take (b - a)) := by rw [← extract_data, mkB_of]

/-! Cut at a byte, joined by a byte. -/
def splitL (c : UInt8) : List UInt8 → List (List UInt8)
  | [] => [[]]
  | x :: l => if x = c then [] :: splitL c l else (x :: (splitL c l).headD []) :: (splitL c l).tail
def joinL (c : UInt8) : List (List UInt8) → List UInt8
  | [] => []
  | [a] => a
  | a :: b :: r => a ++ c :: joinL c (b :: r)
theorem splitL_cons (c : UInt8) (l : List UInt8) : ∃ h t, splitL c l = h :: t := by
  cases l with
  | nil => exact ⟨_, _, rfl⟩
  | cons x l =>
    unfold splitL
    split
    · exact ⟨_, _, rfl⟩
    · exact ⟨_, _, rfl⟩
theorem split_hit (c : UInt8) (r : List UInt8) : ∀ a : List UInt8, c ∉ a → splitL c (a ++ c :: r) = a :: splitL c r
  | [], _ => by show splitL c (c :: r) = _; rw [splitL, if_pos rfl]
  | x :: a, h => by
    simp only [List.mem_cons, not_or] at h
    rw [List.cons_append, splitL, if_neg (fun e => h.1 e.symm), split_hit c r a h.2]
    rfl
theorem split_miss (c : UInt8) : ∀ a : List UInt8, c ∉ a → splitL c a = [a]
  | [], _ => rfl
  | x :: a, h => by
    simp only [List.mem_cons, not_or] at h
    rw [splitL, if_neg (fun e => h.1 e.symm), split_miss c a h.2]
    rfl
theorem join_split (c : UInt8) : ∀ l : List UInt8, joinL c (splitL c l) = l
  | [] => rfl
  | x :: l => by
    obtain ⟨h, t, e⟩ := splitL_cons c l
    have ih := join_split c l
    rw [splitL]
    split
    · next hx => subst hx; rw [e] at ih ⊢; rw [joinL, List.nil_append, ih]
    · rw [e] at ih ⊢
      rw [← ih]
      cases t with
      | nil => rfl
      | cons b t => rfl
theorem split_join (c : UInt8) : ∀ (p : List (List UInt8)), p ≠ [] → (∀ x ∈ p, c ∉ x) → splitL c (joinL c p) = p
  | [], h, _ => absurd rfl h
  | [a], _, h => split_miss c a (h a (by simp))
  | a :: b :: r, _, h => by
    rw [joinL, split_hit c _ a (h a (by simp)), split_join c (b :: r) (by simp) (fun x hx => h x (by simp [List.mem_cons.1 hx]))]
theorem split_no (c : UInt8) : ∀ l : List UInt8, ∀ x ∈ splitL c l, c ∉ x
  | [], x, hx => by simp only [splitL, List.mem_singleton] at hx; subst hx; simp
  | y :: l, x, hx => by
    obtain ⟨h, t, e⟩ := splitL_cons c l
    have ih := split_no c l
    rw [splitL] at hx
    rw [e] at hx ih
    split at hx
    · rcases List.mem_cons.1 hx with rfl | hx
      · simp
      · exact ih x hx
    · next hy =>
      rcases List.mem_cons.1 hx with rfl | hx
      · simp only [List.headD_cons, List.mem_cons, not_or]
        exact ⟨fun e => hy e.symm, ih h (by simp)⟩
      · exact ih x (by simp only [List.tail_cons] at hx; simp [hx])
theorem split_len (c : UInt8) : ∀ l : List UInt8, (splitL c l).length = l.count c + 1
  | [] => rfl
  | y :: l => by
    obtain ⟨h, t, e⟩ := splitL_cons c l
    have ih := split_len c l
    rw [splitL]
    split
    · next hy => subst hy; rw [List.length_cons, ih, List.count_cons_self]
    · next hy => rw [List.count_cons_of_ne (by simpa using hy), ← ih, e]; simp
theorem split_le (c : UInt8) (l : List UInt8) : (splitL c l).length ≤ l.length + 1 := by rw [split_len]; have := List.count_le_length (a := c) (l := l); omega
theorem split_mem_len (c : UInt8) : ∀ l : List UInt8, ∀ x ∈ splitL c l, x.length ≤ l.length
  | [], x, hx => by simp only [splitL, List.mem_singleton] at hx; subst hx; simp
  | y :: l, x, hx => by
    obtain ⟨h, t, e⟩ := splitL_cons c l
    have ih := split_mem_len c l
    rw [splitL] at hx
    rw [e] at hx ih
    split at hx
    · rcases List.mem_cons.1 hx with rfl | hx
      · simp
      · have := ih x hx; simp; omega
    · rcases List.mem_cons.1 hx with rfl | hx
      · have := ih h (by simp); simp; omega
      · have := ih x (by simp only [List.tail_cons] at hx; simp [hx]); simp; omega
/-- The same on texts. -/
def splitS (c : UInt8) (s : ByteArray) : List ByteArray := (splitL c s.data.toList).map mkB
theorem split_at {c : UInt8} {s : ByteArray} {o i : Nat} (h : s.data.toList[i]? = some c) (ho : o ≤ i) (hn : ∀ j, o ≤ j → j < i → s.data.toList[j]? ≠ some c) :
    (splitL c (s.data.toList.drop o)).map mkB = s.extract o i :: (splitL c (s.data.toList.drop (i + 1))).map mkB := by
  obtain ⟨hi, e⟩ := List.getElem?_eq_some_iff.1 h
  have h1 : s.data.toList.drop o = (s.data.toList.drop o).take (i - o) ++ c :: s.data.toList.drop (i + 1) := by
    conv => lhs; rw [← List.take_append_drop (i - o) (s.data.toList.drop o)]
    rw [List.drop_drop, show o + (i - o) = i by omega, List.drop_eq_getElem_cons hi, e]
  have h2 : c ∉ (s.data.toList.drop o).take (i - o) := by
    intro hm
    obtain ⟨j, hj⟩ := List.getElem?_of_mem hm
    have hjl := (List.getElem?_eq_some_iff.1 hj).1
    simp only [List.length_take, List.length_drop] at hjl
    rw [List.getElem?_take, if_pos (by omega), List.getElem?_drop] at hj
    exact hn (o + j) (by omega) (by omega) hj
  rw [h1, split_hit c _ _ h2, List.map_cons, extract_mkB]
theorem split_end {c : UInt8} {s : ByteArray} {o : Nat} (hn : ∀ j, o ≤ j → j < s.size → s.data.toList[j]? ≠ some c) :
    (splitL c (s.data.toList.drop o)).map mkB = [s.extract o s.size] := by
  have h2 : c ∉ s.data.toList.drop o := by
    intro hm
    obtain ⟨j, hj⟩ := List.getElem?_of_mem hm
    have hjl := (List.getElem?_eq_some_iff.1 hj).1
    simp only [List.length_drop, size_data] at hjl
    rw [List.getElem?_drop] at hj
    exact hn (o + j) (by omega) (by omega) hj
  rw [split_miss c _ h2, List.map_singleton, extract_mkB, List.take_of_length_le (by rw [List.length_drop, size_data]; omega)]
/-- The library's pieces are these. -/
theorem index_one_hit {c : UInt8} {a r : List UInt8} (h : c ∉ a) : Lib.index (a ++ c :: r) [c] = a.length := by
  induction a with
  | nil => show Lib.index (c :: r) [c] = _; rw [Lib.index]; simp [List.isPrefixOf]
  | cons x a ih =>
    simp only [List.mem_cons, not_or] at h
    rw [List.cons_append, Lib.index, ih h.2]
    rw [if_neg (by simp [List.isPrefixOf, h.1]), if_neg (by first | (simp; done) | (simp; omega))]
    simp
theorem index_one_miss {c : UInt8} {a : List UInt8} (h : c ∉ a) : Lib.index a [c] = -1 := by
  induction a with
  | nil => rfl
  | cons x a ih =>
    simp only [List.mem_cons, not_or] at h
    rw [Lib.index, ih h.2, if_neg (by simp [List.isPrefixOf, h.1]), if_pos (by simp)]
theorem first_of {c : UInt8} : ∀ {l : List UInt8}, c ∈ l → ∃ a r, l = a ++ c :: r ∧ c ∉ a
  | [], h => by simp at h
  | x :: l, h => by
    by_cases hx : c = x
    · subst hx; exact ⟨[], l, rfl, by simp⟩
    · obtain ⟨a, r, e, hn⟩ := first_of (c := c) (l := l) (by simpa [hx] using h)
      exact ⟨x :: a, r, by rw [e]; rfl, by simp [hx, hn]⟩
theorem splitK_L (c : UInt8) : ∀ (n : Nat) (l : List UInt8), l.length ≤ n → Lib.splitK [c] 0 (l.count c) l = splitL c l := by
  intro n
  induction n with
  | zero =>
    intro l hl
    have : l = [] := List.eq_nil_of_length_eq_zero (by omega)
    subst this
    rfl
  | succ n ih =>
    intro l hl
    by_cases hm : c ∈ l
    · obtain ⟨a, r, rfl, hn⟩ := first_of hm
      have hc : (a ++ c :: r).count c = r.count c + 1 := by
        rw [List.count_append, List.count_eq_zero.2 hn, List.count_cons_self]; omega
      have hix := index_one_hit (r := r) hn
      rw [hc, Lib.splitK, hix, if_neg (by first | (simp; done) | (simp; omega)), split_hit c r a hn]
      have e : ((a.length : Int)).toNat = a.length := by omega
      rw [e, Nat.add_zero, List.take_left, show a.length + [c].length = (a ++ [c]).length by simp, show a ++ c :: r = (a ++ [c]) ++ r by simp, List.drop_left]
      rw [ih r (by simp only [List.length_append, List.length_cons] at hl; omega)]
    · have hc : l.count c = 0 := List.count_eq_zero.2 hm
      rw [hc, split_miss c l hm]
      rfl
theorem splitB_S (c : UInt8) (s : ByteArray) : Lib.splitB ⟨#[c]⟩ 0 (Lib.countB s ⟨#[c]⟩) s = splitS c s := by
  have h := Lib.splitB_data ⟨#[c]⟩ 0 (Lib.countB s ⟨#[c]⟩) s
  have hc : Lib.countB s ⟨#[c]⟩ = s.data.toList.count c := Lib.count_one c s.data.toList
  rw [hc] at h ⊢
  have h2 := splitK_L c _ s.data.toList (Nat.le_refl _)
  have h3 : (Lib.splitB ⟨#[c]⟩ 0 (s.data.toList.count c) s).map (·.data.toList) = splitL c s.data.toList := h.trans h2
  unfold splitS
  rw [← h3, List.map_map]
  conv => lhs; rw [← List.map_id (Lib.splitB ⟨#[c]⟩ 0 (s.data.toList.count c) s)]
  exact List.map_congr_left fun x _ => (mkB_of x).symm
theorem countB_S (c : UInt8) (s : ByteArray) : Lib.countB s ⟨#[c]⟩ + 1 = (splitS c s).length := by
  rw [show Lib.countB s ⟨#[c]⟩ = s.data.toList.count c from Lib.count_one c s.data.toList]
  unfold splitS
  rw [List.length_map, split_len]
theorem splitS_len (c : UInt8) (s : ByteArray) : 1 ≤ (splitS c s).length ∧ (splitS c s).length ≤ s.size + 1 := by
  have h := split_len c s.data.toList
  have h2 := split_le c s.data.toList
  rw [size_data] at h2
  unfold splitS
  rw [List.length_map]
  omega
theorem splitS_mem {c : UInt8} {s x : ByteArray} (h : x ∈ splitS c s) : x.size ≤ s.size ∧ c ∉ x.data.toList := by
  unfold splitS at h
  obtain ⟨l, hl, rfl⟩ := List.mem_map.1 h
  rw [mkB_data, mkB_size, ← size_data]
  exact ⟨split_mem_len c _ l hl, split_no c _ l hl⟩
/-- Cut once. -/
theorem cut_hit {c : UInt8} {a r : List UInt8} (h : c ∉ a) : Lib.cut (a ++ c :: r) [c] = (a, r, true) := by
  unfold Lib.cut
  rw [index_one_hit h, if_pos (by omega)]
  have e : ((a.length : Int)).toNat = a.length := by omega
  rw [e, List.take_left, show a.length + [c].length = (a ++ [c]).length by simp, show a ++ c :: r = (a ++ [c]) ++ r by simp, List.drop_left]
theorem cut_miss {c : UInt8} {a : List UInt8} (h : c ∉ a) : Lib.cut a [c] = (a, [], false) := by
  unfold Lib.cut
  rw [index_one_miss h, if_neg (by omega)]

def cutA (c : UInt8) (y : ByteArray) : ByteArray := mkB (Lib.cut y.data.toList [c]).1
def cutB (c : UInt8) (y : ByteArray) : ByteArray := mkB (Lib.cut y.data.toList [c]).2.1
theorem cut_size (c : UInt8) (y : ByteArray) : (cutA c y).size ≤ y.size ∧ (cutB c y).size ≤ y.size := by
  unfold cutA cutB Lib.cut
  rw [mkB_size, mkB_size, ← size_data]
  split
  · simp only [List.length_take, List.length_drop]; omega
  · simp

/-! Numbers. -/
theorem dig_val {b : UInt8} {d : Nat} (h : Lib.digitVal b = some d) : d < 10 ∧ b = UInt8.ofNat (48 + d) := by
  obtain ⟨h0, h1, rfl⟩ := Lib.digitVal_eq h
  refine ⟨by omega, ?_⟩
  apply UInt8.toNat_inj.1
  rw [UInt8.toNat_ofNat', Nat.mod_eq_of_lt (by omega)]
  omega
theorem decDigits_step {acc d : Nat} (h : 0 < acc) (hd : d < 10) : Lib.decDigits (acc * 10 + d) = Lib.decDigits acc ++ [UInt8.ofNat (48 + d)] := by
  rw [Lib.decDigits, dif_neg (by omega), show (acc * 10 + d) / 10 = acc by omega, show (acc * 10 + d) % 10 = d by omega]
theorem decFrom_digits : ∀ (l : List UInt8) (acc u : Nat), 0 < acc → Lib.decFrom acc l = some u → Lib.decDigits u = Lib.decDigits acc ++ l
  | [], acc, u, _, h => by simp only [Lib.decFrom, Option.some.injEq] at h; subst h; simp
  | b :: l, acc, u, ha, h => by
    simp only [Lib.decFrom] at h
    cases hb : Lib.digitVal b with
    | none => simp [hb] at h
    | some d =>
      simp only [hb] at h
      obtain ⟨hd, rfl⟩ := dig_val hb
      rw [decFrom_digits l _ u (by omega) h, decDigits_step ha hd, List.append_assoc]
      rfl
/-- Digits without a zero ahead are the number's own. -/
theorem decNat_digits {l : List UInt8} {u : Nat} (h : Lib.decFrom 0 l = some u) (hz : l.head? ≠ some 48 ∨ l.length = 1) (hn : l ≠ []) : Lib.decDigits u = l := by
  cases l with
  | nil => exact absurd rfl hn
  | cons b l =>
    simp only [Lib.decFrom] at h
    cases hb : Lib.digitVal b with
    | none => simp [hb] at h
    | some d =>
      simp only [hb] at h
      obtain ⟨hd, rfl⟩ := dig_val hb
      rw [Nat.zero_mul, Nat.zero_add] at h
      by_cases h0 : d = 0
      · subst h0
        have hl : l = [] := by
          rcases hz with hz | hz
          · exact absurd rfl hz
          · exact List.eq_nil_of_length_eq_zero (by simpa using hz)
        subst hl
        simp only [Lib.decFrom, Option.some.injEq] at h
        subst h
        exact Lib.decDigits_one (by omega)
      · rw [decFrom_digits l d u (by omega) h, Lib.decDigits_one hd]
        rfl
theorem digit_byte (d : Nat) (h : d < 10) : (UInt8.ofNat (48 + d)).toNat = 48 + d := by rw [UInt8.toNat_ofNat', Nat.mod_eq_of_lt (by omega)]
theorem digitVal_dig (d : Nat) (h : d < 10) : Lib.digitVal (UInt8.ofNat (48 + d)) = some d := by
  unfold Lib.digitVal
  rw [digit_byte d h, if_pos (by omega)]
  congr 1
  omega
theorem decFrom_append : ∀ (l m : List UInt8) (acc n : Nat), Lib.decFrom acc l = some n → Lib.decFrom acc (l ++ m) = Lib.decFrom n m
  | [], m, acc, n, h => by simp only [Lib.decFrom, Option.some.injEq] at h; subst h; rfl
  | b :: l, m, acc, n, h => by
    simp only [Lib.decFrom, List.cons_append] at h ⊢
    cases hb : Lib.digitVal b with
    | none => simp [hb] at h
    | some d => simp only [hb] at h ⊢; exact decFrom_append l m _ n h
theorem decFrom_dec (u : Nat) : Lib.decFrom 0 (Lib.decDigits u) = some u := by
  induction u using Nat.strongRecOn with
  | _ u ih =>
    by_cases h : u < 10
    · rw [Lib.decDigits_one h]
      simp only [Lib.decFrom, digitVal_dig u h, Nat.zero_mul, Nat.zero_add]
    · rw [Lib.decDigits, dif_neg h, decFrom_append _ _ 0 _ (ih (u / 10) (by omega))]
      simp only [Lib.decFrom, digitVal_dig (u % 10) (by omega), Option.some.injEq]
      omega
theorem decDigits_mem {u : Nat} {b : UInt8} (h : b ∈ Lib.decDigits u) : 48 ≤ b.toNat ∧ b.toNat ≤ 57 := by
  obtain ⟨k, hk⟩ := List.getElem?_of_mem h
  obtain ⟨d, hd⟩ := Lib.digit_of_decFrom _ _ _ (decFrom_dec u) k b hk
  have := Lib.digitVal_eq hd
  omega
theorem decDigits_ne (u : Nat) : Lib.decDigits u ≠ [] := fun e => by
  have := Lib.decDigits_length u
  rw [e] at this
  have h := Lib.nDigits_pos u
  simp at this
  omega
theorem decDigits_inj {u v : Nat} (h : Lib.decDigits u = Lib.decDigits v) : u = v := by
  have := decFrom_dec u
  rw [h, decFrom_dec v] at this
  exact (Option.some.inj this).symm
theorem decDigits_head (u : Nat) : (Lib.decDigits u).head? ≠ some 48 ∨ (Lib.decDigits u).length = 1 := by
  induction u using Nat.strongRecOn with
  | _ u ih =>
    by_cases h : u < 10
    · right; rw [Lib.decDigits_one h]; rfl
    · left
      rw [Lib.decDigits, dif_neg h, List.head?_append]
      have hne := decDigits_ne (u / 10)
      rcases hq : Lib.decDigits (u / 10) with _ | ⟨b, r⟩
      · exact absurd hq hne
      · simp only [List.head?_cons, Option.some_or]
        rcases ih (u / 10) (by omega) with h1 | h1
        · rw [hq] at h1; exact h1
        · have h2 : Lib.nDigits (u / 10) = 1 := by rw [← Lib.decDigits_length, h1]
          have h3 := Lib.lt_pow_nDigits (u / 10)
          rw [h2] at h3
          have h4 : Lib.decDigits (u / 10) = [UInt8.ofNat (48 + u / 10)] := Lib.decDigits_one (by omega)
          rw [hq] at h4
          simp only [List.cons.injEq] at h4
          intro e
          have h5 := congrArg UInt8.toNat ((Option.some.inj e).symm.trans h4.1)
          rw [digit_byte _ (by omega)] at h5
          have : (48 : UInt8).toNat = 48 := rfl
          omega
theorem itoa_inj {n m : Int} (h : Lib.itoa n = Lib.itoa m) : n = m := by
  unfold Lib.itoa at h
  have key : ∀ (u v : Nat), Lib.decDigits u = 45 :: Lib.decDigits v → False := fun u v e => by
    have := decDigits_mem (u := u) (b := 45) (by rw [e]; simp)
    have h45 : (45 : UInt8).toNat = 45 := rfl
    omega
  split at h
  · split at h
    · have := decDigits_inj (List.cons.inj h).2; omega
    · exact absurd h.symm (fun e => key _ _ e)
  · split at h
    · exact absurd h (fun e => key _ _ e)
    · have := decDigits_inj h; omega
theorem digs_lt {u : Nat} (h : (Lib.decDigits u).length ≤ 18) : u < 1000000000000000000 := Lib.decFrom_lt18 (decFrom_dec u) h
theorem nDigits_le {u k : Nat} (h : u < 10 ^ (k + 1)) : Lib.nDigits u ≤ k + 1 := by
  induction k generalizing u with
  | zero => rw [Lib.nDigits_small (by simpa using h)]; omega
  | succ k ih =>
    by_cases h1 : u < 10
    · rw [Lib.nDigits_small h1]; omega
    · rw [Lib.nDigits_big h1]
      have := ih (u := u / 10) (by rw [Nat.pow_succ] at h; omega)
      omega
theorem digs_len {u : Nat} (h : u < 1000000000000000000) : (Lib.decDigits u).length ≤ 18 := by
  rw [Lib.decDigits_length]
  exact nDigits_le (k := 17) h
/-- A number that a text of at most 18 digits spells. -/
def Spells (s : ByteArray) (n : Int) : Prop := -1000000000000000000 < n ∧ n < 1000000000000000000 ∧ mkB (Lib.itoa n) = s
theorem Spells.inj {s : ByteArray} {n m : Int} (h : Spells s n) (k : Spells s m) : n = m := itoa_inj (mkB_inj (h.2.2.trans k.2.2.symm))
open Classical in
noncomputable def num (s : ByteArray) : Option Int := if h : ∃ n, Spells s n then some h.choose else none
theorem num_some {s : ByteArray} {n : Int} (h : num s = some n) : Spells s n := by
  unfold num at h
  split at h
  · next hx => have := hx.choose_spec; rw [Option.some.inj h] at this; exact this
  · cases h
theorem num_of {s : ByteArray} {n : Int} (h : Spells s n) : num s = some n := by
  unfold num
  rw [dif_pos ⟨n, h⟩]
  congr 1
  exact (Exists.choose_spec (⟨n, h⟩ : ∃ n, Spells s n)).inj h
theorem num_none {s : ByteArray} (h : ∀ n, ¬ Spells s n) : num s = none := by
  unfold num
  rw [dif_neg (fun ⟨n, e⟩ => h n e)]
theorem num_not {s : ByteArray} {n : Int} (h : num s = none) : ¬ Spells s n := fun e => by rw [num_of e] at h; cases h
theorem num_itoa {n : Int} (h0 : -1000000000000000000 < n) (h1 : n < 1000000000000000000) : num (mkB (Lib.itoa n)) = some n := num_of ⟨h0, h1, rfl⟩
/-- What the library reads. -/
theorem parse10_dec : ∀ (l : List UInt8) (acc u : Nat), u < 1000000000000000000 → Lib.decFrom acc l = some u → acc ≤ u → Lib.parseUint10 acc l = .ok u
  | [], acc, u, _, h, _ => by simp only [Lib.decFrom, Option.some.injEq] at h; subst h; rfl
  | b :: l, acc, u, hu, h, ha => by
    simp only [Lib.decFrom] at h
    cases hb : Lib.digitVal b with
    | none => simp [hb] at h
    | some d =>
      simp only [hb] at h
      obtain ⟨h0, h1, rfl⟩ := Lib.digitVal_eq hb
      have hle : ∀ (l : List UInt8) (a v : Nat), Lib.decFrom a l = some v → a ≤ v := by
        intro l
        induction l with
        | nil => intro a v e; simp only [Lib.decFrom, Option.some.injEq] at e; omega
        | cons c l ih =>
          intro a v e
          simp only [Lib.decFrom] at e
          cases hc : Lib.digitVal c with
          | none => simp [hc] at e
          | some d2 => simp only [hc] at e; have := ih _ _ e; omega
      have h2 := hle l _ _ h
      rw [Lib.parseUint10, if_pos ⟨h0, h1⟩, if_neg (by omega), if_neg (by omega)]
      exact parse10_dec l _ u hu h h2
theorem parse_itoa {n : Int} (h0 : -1000000000000000000 < n) (h1 : n < 1000000000000000000) : Lib.parseIntB 64 (Lib.itoa n) = .ok n := by
  rw [Lib.parseIntB_64]
  unfold Lib.itoa
  split
  · next hn =>
    rw [Lib.atoiAll_minus]
    have e : Lib.parseMag (Lib.decDigits n.natAbs) = .ok n.natAbs := by
      unfold Lib.parseMag
      rw [if_neg (decDigits_ne _), parse10_dec _ 0 n.natAbs (by omega) (decFrom_dec _) (Nat.zero_le _)]
    rw [e]
    simp only [Lib.signed]
    rw [if_neg (by omega)]
    congr 1
    omega
  · next hn =>
    have hne := decDigits_ne n.toNat
    have hm := fun b => decDigits_mem (u := n.toNat) (b := b)
    have hd := decFrom_dec n.toNat
    rcases hq : Lib.decDigits n.toNat with _ | ⟨b, r⟩
    · exact absurd hq hne
    · rw [hq] at hm hd
      have hb := hm b (by simp)
      rw [Lib.atoiAll_plain b r (by omega) (by omega)]
      have e : Lib.parseMag (b :: r) = .ok n.toNat := by
        unfold Lib.parseMag
        rw [if_neg (by simp), parse10_dec _ 0 n.toNat (by omega) hd (Nat.zero_le _)]
      rw [e]
      simp only [Lib.signless]
      rw [if_neg (by omega)]
      congr 1
      omega
/-- A text's digits: what stands behind a sign. -/
def digsOf (l : List UInt8) : List UInt8 := Lib.trimPrefix l [45]
theorem digsOf_minus (r : List UInt8) : digsOf (45 :: r) = r := by unfold digsOf Lib.trimPrefix Lib.hasPrefix; simp [List.isPrefixOf]
theorem digsOf_plain {l : List UInt8} (h : l.head? ≠ some 45) : digsOf l = l := by
  unfold digsOf Lib.trimPrefix Lib.hasPrefix
  cases l with
  | nil => simp [List.isPrefixOf]
  | cons b r =>
    rw [if_neg]
    simp only [List.isPrefixOf, Bool.and_true, beq_iff_eq]
    intro e; exact h (by rw [← e]; rfl)
theorem digsOf_len (l : List UInt8) : (digsOf l).length ≤ l.length ∧ l.length ≤ (digsOf l).length + 1 := by
  by_cases h : l.head? = some 45
  · cases l with
    | nil => cases h
    | cons b r => simp only [List.head?_cons, Option.some.injEq] at h; subst h; rw [digsOf_minus]; simp
  · rw [digsOf_plain h]; omega
theorem digsOf_itoa (n : Int) : digsOf (Lib.itoa n) = Lib.decDigits n.natAbs := by
  unfold Lib.itoa
  split
  · rw [digsOf_minus]
  · next hn =>
    rw [digsOf_plain, show n.toNat = n.natAbs by omega]
    intro e
    rcases hq : Lib.decDigits n.toNat with _ | ⟨b, r⟩
    · rw [hq] at e; cases e
    · rw [hq] at e
      simp only [List.head?_cons, Option.some.injEq] at e
      subst e
      have := decDigits_mem (u := n.toNat) (b := 45) (by rw [hq]; simp)
      have h45 : (45 : UInt8).toNat = 45 := rfl
      omega
/-- The program's road: the digits are few, the library reads it, the number is spelt so. -/
theorem spells_iff {s : ByteArray} {n : Int} (hb0 : -9223372036854775808 ≤ n) (hb1 : n ≤ 9223372036854775807) (hl : (digsOf s.data.toList).length ≤ 18) (he : mkB (Lib.itoa n) = s) : Spells s n := by
  subst he
  rw [mkB_data, digsOf_itoa] at hl
  have := digs_lt hl
  exact ⟨by omega, by omega, rfl⟩
theorem Spells.digs {s : ByteArray} {n : Int} (h : Spells s n) : 1 ≤ (digsOf s.data.toList).length ∧ (digsOf s.data.toList).length ≤ 18 := by
  obtain ⟨h0, h1, rfl⟩ := h
  rw [mkB_data, digsOf_itoa]
  have := decDigits_ne n.natAbs
  exact ⟨by rcases hq : Lib.decDigits n.natAbs with _ | ⟨b, r⟩; (exact absurd hq this); simp, digs_len (by omega)⟩
theorem Spells.parse {s : ByteArray} {n : Int} (h : Spells s n) : Lib.parseIntB 64 s.data.toList = .ok n := by
  obtain ⟨h0, h1, rfl⟩ := h
  rw [mkB_data]
  exact parse_itoa h0 h1
/-- The reference's road: at the sign, no zero ahead, digits alone. -/
theorem spells_pos {l : List UInt8} {u : Nat} (h : Lib.decFrom 0 l = some u) (hz : l.head? ≠ some 48 ∨ l.length = 1) (hn : l ≠ []) (hl : l.length ≤ 18) : Spells (mkB l) (u : Int) := by
  have hu := Lib.decFrom_lt18 h hl
  refine ⟨by omega, by omega, ?_⟩
  unfold Lib.itoa
  rw [if_neg (by omega), Int.toNat_natCast, decNat_digits h hz hn]
theorem spells_neg {l : List UInt8} {u : Nat} (h : Lib.decFrom 0 l = some u) (hz : l.head? ≠ some 48) (hn : l ≠ []) (hl : l.length ≤ 18) : Spells (mkB (45 :: l)) (-(u : Int)) := by
  have hu := Lib.decFrom_lt18 h hl
  have he := decNat_digits h (.inl hz) hn
  have h0 : 0 < u := by
    rcases Nat.eq_zero_or_pos u with rfl | h0
    · rw [Lib.decDigits_one (by omega)] at he
      rw [← he] at hz
      exact absurd rfl hz
    · exact h0
  refine ⟨by omega, by omega, ?_⟩
  unfold Lib.itoa
  rw [if_pos (by omega), Int.natAbs_neg, Int.natAbs_natCast, he]
/-- What a spelt number's text is. -/
theorem Spells.cases {s : ByteArray} {n : Int} (h : Spells s n) : (∃ u : Nat, n = u ∧ s = mkB (Lib.decDigits u)) ∨ (∃ u : Nat, 0 < u ∧ n = -(u : Int) ∧ s = mkB (45 :: Lib.decDigits u)) := by
  obtain ⟨h0, h1, rfl⟩ := h
  unfold Lib.itoa
  split
  · exact .inr ⟨n.natAbs, by omega, by omega, rfl⟩
  · exact .inl ⟨n.toNat, by omega, rfl⟩
theorem itoa_mem {n : Int} {b : UInt8} (h : b ∈ Lib.itoa n) : b = 45 ∨ 48 ≤ b.toNat ∧ b.toNat ≤ 57 := by
  unfold Lib.itoa at h
  split at h
  · rcases List.mem_cons.1 h with rfl | h
    · exact .inl rfl
    · exact .inr (decDigits_mem h)
  · exact .inr (decDigits_mem h)
theorem itoa_free {n : Int} {c : UInt8} (h : c ≠ 45) (h2 : c.toNat < 48 ∨ 57 < c.toNat) : c ∉ Lib.itoa n := fun hm => by
  rcases itoa_mem hm with e | e
  · exact h e
  · omega
theorem itoa_ne (n : Int) : Lib.itoa n ≠ [] := by
  unfold Lib.itoa
  split
  · simp
  · exact decDigits_ne _
/-! The reference's road, by the place of the digits. -/
def AtOf (l : List UInt8) (a : Nat) : Prop := (a = 1 ∧ l.head? = some 45) ∨ (a = 0 ∧ l.head? ≠ some 45)
theorem digsOf_at {l : List UInt8} {a : Nat} (h : AtOf l a) : digsOf l = l.drop a := by
  rcases h with ⟨rfl, h⟩ | ⟨rfl, h⟩
  · cases l with
    | nil => cases h
    | cons b r => simp only [List.head?_cons, Option.some.injEq] at h; subst h; rw [digsOf_minus]; rfl
  · rw [digsOf_plain h]; rfl
theorem Spells.drop {s : ByteArray} {n : Int} {a : Nat} (h : Spells s n) (ha : AtOf s.data.toList a) : s.data.toList.drop a = Lib.decDigits n.natAbs ∧ (a = 1 → n < 0) := by
  refine ⟨?_, fun h1 => ?_⟩
  · rw [← digsOf_at ha, ← h.2.2, mkB_data, digsOf_itoa]
  · rcases ha with ⟨-, h2⟩ | ⟨h2, -⟩
    · rcases h.cases with ⟨u, -, rfl⟩ | ⟨u, h0, rfl, -⟩
      · rw [mkB_data] at h2
        rcases hq : Lib.decDigits u with _ | ⟨b, r⟩
        · rw [hq] at h2; cases h2
        · rw [hq] at h2
          simp only [List.head?_cons, Option.some.injEq] at h2
          subst h2
          have := decDigits_mem (u := u) (b := 45) (by rw [hq]; simp)
          have h45 : (45 : UInt8).toNat = 45 := rfl
          omega
      · omega
    · omega
theorem no_of_len {s : ByteArray} {a : Nat} (ha : AtOf s.data.toList a) (h : s.size = a ∨ 18 < s.size - a) : num s = none := num_none fun n hn => by
  have h1 := hn.digs
  rw [digsOf_at ha, List.length_drop, size_data] at h1
  omega
theorem no_of_zero {s : ByteArray} {a : Nat} (ha : AtOf s.data.toList a) (h : s.data.toList[a]? = some 48) (h1 : 1 < s.size) : num s = none := num_none fun n hn => by
  obtain ⟨e, hneg⟩ := hn.drop ha
  have hh : (s.data.toList.drop a).head? = some 48 := by rw [List.head?_drop]; exact h
  rcases decDigits_head n.natAbs with h2 | h2
  · rw [← e] at h2; exact h2 hh
  · rw [← e, List.length_drop, size_data] at h2
    have ha1 : a = 1 := by rcases ha with ⟨rfl, -⟩ | ⟨rfl, -⟩ <;> omega
    have hlt := hneg ha1
    have hl : (Lib.decDigits n.natAbs).length = 1 := by rw [← e, List.length_drop, size_data]; exact h2
    have h10 : n.natAbs < 10 := by
      have h3 := Lib.lt_pow_nDigits n.natAbs
      rw [← Lib.decDigits_length, hl] at h3
      omega
    rw [e, Lib.decDigits_one h10] at hh
    simp only [List.head?_cons, Option.some.injEq] at hh
    have h5 := congrArg UInt8.toNat hh
    rw [digit_byte _ h10] at h5
    have : (48 : UInt8).toNat = 48 := rfl
    omega
theorem no_of_char {s : ByteArray} {a k : Nat} {b : UInt8} (ha : AtOf s.data.toList a) (hk : a ≤ k) (hb : s.data.toList[k]? = some b) (hd : ¬ (48 ≤ b.toNat ∧ b.toNat ≤ 57)) : num s = none := num_none fun n hn => by
  obtain ⟨e, -⟩ := hn.drop ha
  have h1 : b ∈ s.data.toList.drop a := List.mem_of_getElem? (i := k - a) (by rw [List.getElem?_drop, show a + (k - a) = k by omega]; exact hb)
  rw [e] at h1
  exact hd (decDigits_mem h1)
theorem yes_of {s : ByteArray} {a u : Nat} (ha : AtOf s.data.toList a) (h : Lib.decFrom 0 (s.data.toList.drop a) = some u) (h1 : a < s.size) (h2 : s.size - a ≤ 18) (hz : ¬ (s.data.toList[a]? = some 48 ∧ 1 < s.size)) : num s = some (if a = 1 then -(u : Int) else u) := by
  have hne : s.data.toList.drop a ≠ [] := fun e => by
    have := congrArg List.length e
    rw [List.length_drop, size_data] at this
    simp at this
    omega
  have hl : (s.data.toList.drop a).length ≤ 18 := by rw [List.length_drop, size_data]; exact h2
  have hh : (s.data.toList.drop a).head? = s.data.toList[a]? := List.head?_drop
  rcases ha with ⟨rfl, h3⟩ | ⟨rfl, h3⟩
  · rw [if_pos rfl]
    have hz1 : (s.data.toList.drop 1).head? ≠ some 48 := fun e => hz ⟨hh ▸ e, by omega⟩
    have := spells_neg h hz1 hne hl
    have e : (45 : UInt8) :: s.data.toList.drop 1 = s.data.toList := by
      rcases hq : s.data.toList with _ | ⟨b, r⟩
      · rw [hq] at h3; cases h3
      · rw [hq] at h3; simp only [List.head?_cons, Option.some.injEq] at h3; subst h3; rfl
    rw [e, mkB_of] at this
    exact num_of this
  · rw [if_neg (by omega)]
    rw [List.drop_zero] at h hne hl hh
    have := spells_pos h (by
      by_cases h4 : s.data.toList.length = 1
      · exact .inr h4
      · left
        intro e
        exact hz ⟨hh ▸ e, by rw [size_data] at h4; omega⟩) hne hl
    rw [mkB_of] at this
    exact num_of this
theorem dec_step {s : ByteArray} {a k u : Nat} {b : UInt8} (h : Lib.decFrom 0 ((s.data.toList.drop a).take (k - a)) = some u) (hk : a ≤ k) (hb : s.data.toList[k]? = some b) (h0 : 48 ≤ b.toNat) (h1 : b.toNat ≤ 57) : Lib.decFrom 0 ((s.data.toList.drop a).take (k + 1 - a)) = some (u * 10 + (b.toNat - 48)) := by
  have hd : Lib.digitVal b = some (b.toNat - 48) := by unfold Lib.digitVal; rw [if_pos ⟨h0, h1⟩]
  have := Lib.decFrom_take (s.data.toList.drop a) (k - a) 0 u b (b.toNat - 48) h (by rw [List.getElem?_drop, show a + (k - a) = k by omega]; exact hb) hd
  rw [show k + 1 - a = k - a + 1 by omega]
  exact this
theorem dec_lt {s : ByteArray} {a k u : Nat} (h : Lib.decFrom 0 ((s.data.toList.drop a).take (k - a)) = some u) (hk : k - a ≤ 17) : u < 100000000000000000 := Lib.decFrom_take_lt h hk
theorem dec_all {s : ByteArray} {a u : Nat} (h : Lib.decFrom 0 ((s.data.toList.drop a).take (s.size - a)) = some u) : Lib.decFrom 0 (s.data.toList.drop a) = some u := by
  rwa [List.take_of_length_le (by rw [List.length_drop, size_data]; exact Nat.le_refl _)] at h
/-- The words of a line: its pieces that are not empty. -/
def wordsS (s : ByteArray) : List ByteArray := (splitS 32 s).filter fun x => !(x.size == 0)
theorem words_full {s : ByteArray} (h : ∀ x ∈ splitS 32 s, x.size ≠ 0) : wordsS s = splitS 32 s := by
  unfold wordsS
  rw [List.filter_eq_self]
  intro x hx
  simp [h x hx]
/-- Numbers read, all of them. -/
noncomputable def okN (x : ByteArray) : Bool := (num x).isSome
noncomputable def valN (x : ByteArray) : Int := (num x).getD 0
noncomputable def numsR (L : List ByteArray) : List Int × Bool := if L.all okN = true then (L.map valN, true) else ([], false)
theorem okN_of {x : ByteArray} {n : Int} (h : num x = some n) : okN x = true ∧ valN x = n := by unfold okN valN; rw [h]; exact ⟨rfl, rfl⟩
theorem okN_no {x : ByteArray} (h : num x = none) : okN x = false ∧ valN x = 0 := by unfold okN valN; rw [h]; exact ⟨rfl, rfl⟩
theorem num_okN {x : ByteArray} (h : okN x = true) : num x = some (valN x) := by
  unfold okN at h
  unfold valN
  cases hq : num x with
  | none => rw [hq] at h; cases h
  | some n => rfl
theorem valN_bd (x : ByteArray) : -1000000000000000000 < valN x ∧ valN x < 1000000000000000000 := by
  cases hq : num x with
  | none => rw [(okN_no hq).2]; omega
  | some n => rw [(okN_of hq).2]; have := num_some hq; exact ⟨this.1, this.2.1⟩
end Go.Proofs.YtenahmlceglhoaaDoor
