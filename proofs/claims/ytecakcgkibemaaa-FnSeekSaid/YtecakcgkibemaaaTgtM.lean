/-
  Plain words: the targets of cues, risen, each once.
-/
import Derived.Test.YtecakcgkibemaaaLevM
import Derived.Lib.SlicesCompact
import Derived.Sort.Walk0
namespace Go.Proofs.Ytecakcgkibemaaa
open Go.RowKit

def ltB (a b : ByteArray) : Bool := Op.bytesLess a.toList b.toList
theorem ltB_iff {a b : ByteArray} : ltB a b = true ↔ a.data.toList < b.data.toList := by
  unfold ltB
  rw [Proofs.bytesLess_eq, ByteArray.toList_eq, ByteArray.toList_eq]
  simp
theorem eqS_iff {a b : ByteArray} : eqS a b = true ↔ a = b := by
  unfold eqS
  rw [ByteArray.toList_eq, ByteArray.toList_eq]
  constructor
  · intro h
    have h1 : a.data.toList = b.data.toList := by simpa using h
    cases a; cases b
    exact congrArg _ (Array.toList_inj.1 h1)
  · rintro rfl; simp
def ins (t : ByteArray) : List ByteArray → List ByteArray
  | [] => [t]
  | y :: ys => if ltB y t then y :: ins t ys else if eqS y t then y :: ys else t :: y :: ys
def tgN (L : List SCue) : List ByteArray := L.foldl (fun O x => ins x.Target O) []
theorem tgN_snoc (L : List SCue) (x : SCue) : tgN (L ++ [x]) = ins x.Target (tgN L) := by unfold tgN; simp
theorem ins_at_hit {t y : ByteArray} : ∀ {O : List ByteArray} {k : Nat}, (O.take k).all (fun z => ltB z t) = true → O[k]? = some y → ltB y t = false → eqS y t = true → ins t O = O
  | [], k, _, h, _, _ => by simp at h
  | z :: O, 0, _, h, h1, h2 => by
    obtain rfl : z = y := by simpa using h
    unfold ins
    rw [if_neg (by rw [h1]; simp), if_pos h2]
  | z :: O, k + 1, ha, h, h1, h2 => by
    simp only [List.take_succ_cons, List.all_cons, Bool.and_eq_true] at ha
    unfold ins
    rw [if_pos ha.1, ins_at_hit ha.2 (by simpa using h) h1 h2]
theorem ins_at_miss {t : ByteArray} : ∀ {O : List ByteArray} {k : Nat}, (O.take k).all (fun z => ltB z t) = true → k ≤ O.length → (∀ y, O[k]? = some y → ltB y t = false ∧ eqS y t = false) → ins t O = O.take k ++ t :: O.drop k
  | [], k, _, hk, _ => by
    obtain rfl : k = 0 := by simpa using hk
    rfl
  | z :: O, 0, _, _, h => by
    have := h z (by simp)
    unfold ins
    rw [if_neg (by rw [this.1]; simp), if_neg (by rw [this.2]; simp)]
    simp
  | z :: O, k + 1, ha, hk, h => by
    simp only [List.take_succ_cons, List.all_cons, Bool.and_eq_true] at ha
    unfold ins
    rw [if_pos ha.1, ins_at_miss ha.2 (by simpa using hk) (fun y hy => h y (by simpa using hy))]
    simp
theorem ins_len (t : ByteArray) : ∀ O : List ByteArray, (ins t O).length ≤ O.length + 1
  | [] => by simp [ins]
  | y :: ys => by
    unfold ins
    have := ins_len t ys
    split
    · simp; omega
    · split <;> simp
theorem tgN_len (L : List SCue) : (tgN L).length ≤ L.length := by
  have : ∀ (L : List SCue) (O : List ByteArray), (L.foldl (fun O x => ins x.Target O) O).length ≤ O.length + L.length := by
    intro L
    induction L with
    | nil => intro O; simp
    | cons x L ih => intro O; have := ih (ins x.Target O); have h2 := ins_len x.Target O; simp only [List.foldl_cons, List.length_cons]; omega
  have := this L []
  unfold tgN
  simp at this ⊢
  omega
/-- strictly rising. -/
def Rises (Z : List (List UInt8)) : Prop := Z.Pairwise (· < ·)
theorem lt_irr (a : List UInt8) : ¬ a < a := List.lt_irrefl a
theorem lt_tr {a b c : List UInt8} (h : a < b) (h2 : b < c) : a < c := List.lt_trans h h2
theorem le_lt {a b : List UInt8} (h : a ≤ b) (h2 : a ≠ b) : a < b := by
  rcases Classical.em (a < b) with h3 | h3
  · exact h3
  · exact absurd (List.le_antisymm h (List.not_lt.1 h3)) h2
theorem rises_eq : ∀ {X Y : List (List UInt8)}, Rises X → Rises Y → (∀ z, z ∈ X ↔ z ∈ Y) → X = Y
  | [], [], _, _, _ => rfl
  | [], y :: Y, _, _, h => absurd ((h y).2 (by simp)) (by simp)
  | x :: X, [], _, _, h => absurd ((h x).1 (by simp)) (by simp)
  | x :: X, y :: Y, hx, hy, h => by
    unfold Rises at hx hy
    rw [List.pairwise_cons] at hx hy
    have e : x = y := by
      rcases List.mem_cons.1 ((h x).1 (by simp)) with e | e
      · exact e
      rcases List.mem_cons.1 ((h y).2 (by simp)) with e2 | e2
      · exact e2.symm
      exact absurd (lt_tr (hx.1 y e2) (hy.1 x e)) (lt_irr _)
    subst e
    rw [rises_eq hx.2 hy.2 (fun z => ?_)]
    constructor
    · intro hz
      rcases List.mem_cons.1 ((h z).1 (List.mem_cons_of_mem _ hz)) with e | e
      · exact absurd (e ▸ hx.1 z hz) (lt_irr _)
      · exact e
    · intro hz
      rcases List.mem_cons.1 ((h z).2 (List.mem_cons_of_mem _ hz)) with e | e
      · exact absurd (e ▸ hy.1 z hz) (lt_irr _)
      · exact e
theorem ins_mem (t : ByteArray) : ∀ (O : List ByteArray) (z : ByteArray), z ∈ ins t O ↔ z = t ∨ z ∈ O
  | [], z => by simp [ins]
  | y :: ys, z => by
    unfold ins
    split
    · rw [List.mem_cons, ins_mem t ys z, List.mem_cons]
      constructor
      · rintro (h | h | h) <;> simp [h]
      · rintro (h | h | h) <;> simp [h]
    · split
      · rename_i h
        rw [eqS_iff] at h
        subst h
        simp
      · simp
theorem ins_rises {t : ByteArray} : ∀ {O : List ByteArray}, Rises (O.map (·.data.toList)) → Rises ((ins t O).map (·.data.toList))
  | [], _ => by simp [ins, Rises]
  | y :: ys, h => by
    unfold Rises at h ⊢
    rw [List.map_cons, List.pairwise_cons] at h
    unfold ins
    split
    · rename_i hl
      rw [List.map_cons, List.pairwise_cons]
      refine ⟨fun z hz => ?_, ins_rises h.2⟩
      obtain ⟨u, hu, rfl⟩ := List.mem_map.1 hz
      rcases (ins_mem t ys u).1 hu with e | e
      · subst e; exact ltB_iff.1 hl
      · exact h.1 _ (List.mem_map.2 ⟨u, e, rfl⟩)
    · rename_i hl
      split
      · rw [List.map_cons, List.pairwise_cons]; exact h
      · rename_i he
        have hty : t.data.toList < y.data.toList := by
          refine le_lt (List.not_lt.1 (fun h => hl (ltB_iff.2 h))) (fun e => he (eqS_iff.2 ?_))
          cases y; cases t
          exact congrArg _ (Array.toList_inj.1 e.symm)
        rw [List.map_cons, List.pairwise_cons, List.map_cons, List.pairwise_cons]
        refine ⟨fun z hz => ?_, h⟩
        rcases List.mem_cons.1 hz with e | e
        · exact e ▸ hty
        · exact lt_tr hty (h.1 z e)
theorem tgN_rises (L : List SCue) : Rises ((tgN L).map (·.data.toList)) := by
  have : ∀ (L : List SCue) (O : List ByteArray), Rises (O.map (·.data.toList)) → Rises ((L.foldl (fun O x => ins x.Target O) O).map (·.data.toList)) := by
    intro L
    induction L with
    | nil => intro O h; exact h
    | cons x L ih => intro O h; exact ih _ (ins_rises h)
  exact this L [] (by simp [Rises])
theorem tgN_mem (L : List SCue) (z : ByteArray) : z ∈ tgN L ↔ z ∈ L.map SCue.Target := by
  have : ∀ (L : List SCue) (O : List ByteArray), z ∈ L.foldl (fun O x => ins x.Target O) O ↔ z ∈ O ∨ z ∈ L.map SCue.Target := by
    intro L
    induction L with
    | nil => intro O; simp
    | cons x L ih =>
      intro O
      rw [List.foldl_cons, ih, ins_mem, List.map_cons, List.mem_cons]
      constructor
      · rintro ((h | h) | h) <;> simp [h]
      · rintro (h | h | h) <;> simp [h]
  have := this L []
  unfold tgN
  simpa using this
theorem upTo_facts (d : Array (List UInt8)) (hs : ∀ j, j + 1 < d.size → d[j]! ≤ d[j + 1]!) : ∀ m, m < d.size → Rises (Lib.compactUpTo d (m + 1)) ∧ (∀ z ∈ Lib.compactUpTo d (m + 1), z ≤ d[m]!) ∧ (∀ z, z ∈ Lib.compactUpTo d (m + 1) ↔ ∃ j, j ≤ m ∧ d[j]! = z)
  | 0, h => by
    have e : Lib.compactUpTo d 1 = [d[0]!] := by simp [Lib.compactUpTo, Lib.keeps]
    rw [e]
    refine ⟨by simp [Rises], by simp, fun z => ?_⟩
    simp
    exact eq_comm
  | m + 1, h => by
    obtain ⟨h1, h2, h3⟩ := upTo_facts d hs m (by omega)
    have hm := hs m h
    rw [Lib.compactUpTo_succ]
    by_cases he : d[m + 1]! = d[m]!
    · rw [Lib.keeps_neg (by omega) (by simpa using he)]
      simp only [Bool.false_eq_true, if_false, List.append_nil]
      refine ⟨h1, fun z hz => List.le_trans (h2 z hz) hm, fun z => ?_⟩
      rw [h3]
      constructor
      · rintro ⟨j, hj, e⟩; exact ⟨j, by omega, e⟩
      · rintro ⟨j, hj, e⟩
        rcases Nat.lt_or_ge j (m + 1) with h | h
        · exact ⟨j, by omega, e⟩
        · obtain rfl : j = m + 1 := by omega
          exact ⟨m, by omega, he ▸ e⟩
    · rw [Lib.keeps_pos (by simpa using he)]
      simp only [if_true]
      have hlt : d[m]! < d[m + 1]! := le_lt hm (fun e => he e.symm)
      have hall : ∀ z ∈ Lib.compactUpTo d (m + 1), z < d[m + 1]! := fun z hz => List.lt_of_le_of_lt (h2 z hz) hlt
      refine ⟨?_, ?_, fun z => ?_⟩
      · unfold Rises
        rw [List.pairwise_append]
        exact ⟨h1, by simp, fun a ha b hb => (show b = d[m + 1]! by simpa using hb) ▸ hall a ha⟩
      · intro z hz
        rcases List.mem_append.1 hz with h | h
        · exact List.le_of_lt (hall z h)
        · obtain rfl : z = _ := by simpa using h
          exact List.le_refl _
      · rw [List.mem_append, h3]
        constructor
        · rintro (⟨j, hj, e⟩ | h)
          · exact ⟨j, by omega, e⟩
          · obtain rfl : z = _ := by simpa using h
            exact ⟨m + 1, by omega, rfl⟩
        · rintro ⟨j, hj, e⟩
          rcases Nat.lt_or_ge j (m + 1) with h | h
          · exact .inl ⟨j, by omega, e⟩
          · obtain rfl : j = m + 1 := by omega
            exact .inr (by simp [e])
theorem sorted_tgN (L : List SCue) : Lib.compact ((L.map (·.Target.data.toList)).mergeSort fun x y => decide (x ≤ y)) = (tgN L).map (·.data.toList) := by
  obtain ⟨S, hS⟩ : ∃ S, (L.map (·.Target.data.toList)).mergeSort (fun x y => decide (x ≤ y)) = S := ⟨_, rfl⟩
  have hmem : ∀ z, z ∈ S ↔ z ∈ L.map (·.Target.data.toList) := fun z => by rw [← hS]; exact List.mem_mergeSort
  have hpw : S.Pairwise (fun x y => x ≤ y) := by
    have := List.pairwise_mergeSort (le := fun (x y : List UInt8) => decide (x ≤ y)) (by intro a b c h1 h2; simp only [decide_eq_true_eq] at *; exact List.le_trans h1 h2) (by intro a b; simp only [Bool.or_eq_true, decide_eq_true_eq]; exact List.le_total a b) (L.map (·.Target.data.toList))
    rw [hS] at this
    exact this.imp (by intro a b h; simpa using h)
  rw [hS]
  have hin : ∀ z, z ∈ S ↔ z ∈ (tgN L).map (·.data.toList) := fun z => by
    rw [hmem]
    simp only [List.mem_map]
    constructor
    · rintro ⟨x, hx, rfl⟩
      exact ⟨x.Target, (tgN_mem L _).2 (List.mem_map.2 ⟨x, hx, rfl⟩), rfl⟩
    · rintro ⟨t, ht, rfl⟩
      obtain ⟨x, hx, rfl⟩ := List.mem_map.1 ((tgN_mem L t).1 ht)
      exact ⟨x, hx, rfl⟩
  cases hl : S.length with
  | zero =>
    obtain rfl : S = [] := List.length_eq_zero_iff.1 hl
    have : (tgN L).map (·.data.toList) = [] := List.eq_nil_iff_forall_not_mem.2 (fun z hz => by simpa using (hin z).2 hz)
    rw [this]
    rfl
  | succ m =>
    have hf := upTo_facts S.toArray (fun j hj => by
      simp only [List.size_toArray] at hj
      rw [getElem!_pos _ j (by simp; omega), getElem!_pos _ (j + 1) (by simpa using hj)]
      simp only [List.getElem_toArray]
      exact List.pairwise_iff_getElem.1 hpw j (j + 1) (by omega) hj (by omega)) m (by simp; omega)
    unfold Lib.compact
    rw [hl]
    refine rises_eq hf.1 (tgN_rises L) (fun z => ?_)
    rw [hf.2.2, ← hin]
    constructor
    · rintro ⟨j, hj, rfl⟩
      rw [getElem!_pos _ j (by simp; omega)]
      simp
    · intro hz
      obtain ⟨j, hj, rfl⟩ := List.getElem_of_mem hz
      exact ⟨j, by omega, by rw [getElem!_pos _ j (by simpa using hj)]; simp⟩
end Go.Proofs.Ytecakcgkibemaaa
