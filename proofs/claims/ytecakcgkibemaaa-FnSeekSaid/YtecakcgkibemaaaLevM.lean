/-
  Plain words: the level of a target at a time.
-/
import Derived.Test.YtecakcgkibemaaaValidCues
namespace Go.Proofs.Ytecakcgkibemaaa
open Go.RowKit

def eqS (a b : ByteArray) : Bool := a.toList == b.toList
/-- Where a fade's time ends: at the next cue of the target, or now. -/
def lvlEnd (R : List SCue) (tg : ByteArray) (time : Int) : Int := match R.find? (fun y => eqS y.Target tg) with
  | some y => min time y.Time
  | none => time
def lvlCue (x : SCue) (R : List SCue) (tg : ByteArray) (time lev : Int) : Int :=
  if eqS x.Target tg = false then lev else if time < x.Time then lev
  else if x.Action = 2 then (if lvlEnd R tg time < x.Time + x.Length then lev + near ((x.Value - lev) * (lvlEnd R tg time - x.Time)) x.Length else x.Value) else x.Value
def lvl (L : List SCue) (tg : ByteArray) (time : Int) : Nat → Int
  | 0 => 0
  | k + 1 => match L[k]? with
    | some x => lvlCue x (L.drop (k + 1)) tg time (lvl L tg time k)
    | none => lvl L tg time k
section
variable {L : List SCue} {tg : ByteArray} {time : Int} {k : Nat} {x : SCue}
theorem lvl_succ (hx : L[k]? = some x) : lvl L tg time (k + 1) = lvlCue x (L.drop (k + 1)) tg time (lvl L tg time k) := by rw [lvl, hx]
theorem lvlCue_other {x : SCue} {R : List SCue} {lev : Int} (h : eqS x.Target tg = false) : lvlCue x R tg time lev = lev := by unfold lvlCue; rw [if_pos h]
theorem lvlCue_late {x : SCue} {R : List SCue} {lev : Int} (h : eqS x.Target tg = true) (ht : time < x.Time) : lvlCue x R tg time lev = lev := by unfold lvlCue; rw [if_neg (by rw [h]; simp), if_pos ht]
theorem lvlCue_set {x : SCue} {R : List SCue} {lev : Int} (h : eqS x.Target tg = true) (ht : x.Time ≤ time) (ha : ¬ x.Action = 2) : lvlCue x R tg time lev = x.Value := by unfold lvlCue; rw [if_neg (by rw [h]; simp), if_neg (by omega), if_neg ha]
theorem lvlCue_done {x : SCue} {R : List SCue} {lev e : Int} (h : eqS x.Target tg = true) (ht : x.Time ≤ time) (ha : x.Action = 2) (he : lvlEnd R tg time = e) (hd : x.Time + x.Length ≤ e) : lvlCue x R tg time lev = x.Value := by
  unfold lvlCue; rw [if_neg (by rw [h]; simp), if_neg (by omega), if_pos ha, he, if_neg (by omega)]
theorem lvlCue_fade {x : SCue} {R : List SCue} {lev e : Int} (h : eqS x.Target tg = true) (ht : x.Time ≤ time) (ha : x.Action = 2) (he : lvlEnd R tg time = e) (hd : e < x.Time + x.Length) : lvlCue x R tg time lev = lev + near ((x.Value - lev) * (e - x.Time)) x.Length := by
  unfold lvlCue; rw [if_neg (by rw [h]; simp), if_neg (by omega), if_pos ha, he, if_pos hd]
theorem near_share {d y c : Int} (hc : 0 < c) (h0 : 0 ≤ y) (h1 : y ≤ c) : (0 ≤ d → 0 ≤ near (d * y) c ∧ near (d * y) c ≤ d) ∧ (d ≤ 0 → d ≤ near (d * y) c ∧ near (d * y) c ≤ 0) := by
  have pos : ∀ e : Int, 0 ≤ e → 0 ≤ near (e * y) c ∧ near (e * y) c ≤ e := fun e he => by
    have a1 := Int.mul_nonneg he h0
    have a2 : e * y ≤ e * c := Int.mul_le_mul_of_nonneg_left h1 he
    rw [near_pos a1]
    refine ⟨Int.ediv_nonneg (by omega) (by omega), ?_⟩
    have a3 : (2 * (e * y) + c) / (2 * c) < e + 1 := Int.ediv_lt_of_lt_mul (by omega) (by
      have : (e + 1) * (2 * c) = 2 * (e * c) + 2 * c := by rw [Int.add_mul, Int.one_mul, Int.mul_left_comm]
      omega)
    omega
  refine ⟨pos d, fun hd => ?_⟩
  by_cases hz : d * y < 0
  · have h := pos (-d) (by omega)
    rw [near_mirror hz, show -(d * y) = -d * y by rw [Int.neg_mul]]
    omega
  · have h2 : d * y ≤ 0 := Int.mul_nonpos_of_nonpos_of_nonneg hd h0
    have h3 : d * y = 0 := by omega
    rw [h3, near_pos (Int.le_refl _), Int.mul_zero, Int.zero_add, Int.ediv_eq_zero_of_lt (by omega) (by omega)]
    omega
theorem vcus_rises (h : vcus L = true) : ∀ {i j : Nat} {x y : SCue}, L[i]? = some x → L[j]? = some y → i < j → x.Time ≤ y.Time := by
  intro i j
  induction j with
  | zero => intro x y _ _ hij; omega
  | succ j ih =>
    intro x y hx hy hij
    obtain ⟨z, hz⟩ : ∃ z, L[j]? = some z := ⟨_, List.getElem?_eq_getElem (by have := (List.getElem?_eq_some_iff.1 hy).1; omega)⟩
    have hr := chk_rel (vcus_chk h) hy hz
    have hzy : z.Time ≤ y.Time := by
      simp only [ltCu, Bool.or_eq_true, Bool.and_eq_true, decide_eq_true_eq, beq_iff_eq] at hr
      omega
    rcases Nat.lt_or_ge i j with h1 | h1
    · have := ih hx hz h1; omega
    · obtain rfl : i = j := by omega
      rw [hx] at hz; cases hz; exact hzy
theorem lvlEnd_bd (h : vcus L = true) (hx : L[k]? = some x) (ht : x.Time ≤ time) : x.Time ≤ lvlEnd (L.drop (k + 1)) tg time ∧ lvlEnd (L.drop (k + 1)) tg time ≤ time := by
  unfold lvlEnd
  cases hf : (L.drop (k + 1)).find? (fun y => eqS y.Target tg) with
  | none => simp only; omega
  | some y =>
    have hm := List.mem_of_find?_eq_some hf
    obtain ⟨i, hi⟩ := List.getElem?_of_mem hm
    rw [List.getElem?_drop] at hi
    have := vcus_rises h hx hi (by omega)
    simp only; omega
theorem lvlCue_bd (h : vcus L = true) (hx : L[k]? = some x) {lev : Int} (h0 : 0 ≤ lev) (h1 : lev ≤ 1000) : 0 ≤ lvlCue x (L.drop (k + 1)) tg time lev ∧ lvlCue x (L.drop (k + 1)) tg time lev ≤ 1000 := by
  have hb := vcuB_bd (vcus_at h hx)
  unfold lvlCue
  repeat' split
  all_goals first
    | omega
    | skip
  rename_i _ ht ha he
  have hd := lvlEnd_bd (tg := tg) h hx (by omega : x.Time ≤ time)
  have hc := hb.2.2.2.2.2.2.2.2 ha
  obtain ⟨n1, n2⟩ := near_share (d := x.Value - lev) (y := lvlEnd (L.drop (k + 1)) tg time - x.Time) (c := x.Length) (by omega) (by omega) (by omega)
  rcases Int.le_total 0 (x.Value - lev) with hv | hv
  · have := n1 hv; omega
  · have := n2 hv; omega
theorem lvl_bd (h : vcus L = true) (tg : ByteArray) (time : Int) : ∀ k, 0 ≤ lvl L tg time k ∧ lvl L tg time k ≤ 1000
  | 0 => by simp [lvl]
  | k + 1 => by
    have ih := lvl_bd h tg time k
    rw [lvl]
    cases hx : L[k]? with
    | none => exact ih
    | some x => exact lvlCue_bd h hx ih.1 ih.2
theorem lvl_mul {v lev e t l : Int} (hv : 0 ≤ v ∧ v ≤ 1000) (hl : 0 ≤ lev ∧ lev ≤ 1000) (h0 : 0 ≤ e - t) (h1 : e - t ≤ l) (h2 : l ≤ 7200000) : -7200000000 ≤ (v - lev) * (e - t) ∧ (v - lev) * (e - t) ≤ 7200000000 := by
  have a1 : (v - lev) * (e - t) ≤ 1000 * (e - t) := Int.mul_le_mul_of_nonneg_right (by omega) h0
  have a2 : -1000 * (e - t) ≤ (v - lev) * (e - t) := Int.mul_le_mul_of_nonneg_right (by omega) h0
  omega
theorem find_hit_end {R : List SCue} {j : Nat} {y : SCue} (hy : R[j]? = some y) (ha : (R.take j).all (fun z => !eqS z.Target tg) = true) (hh : eqS y.Target tg = true) : lvlEnd R tg time = min time y.Time := by
  unfold lvlEnd
  have : R.find? (fun z => eqS z.Target tg) = some y := by
    rw [List.find?_eq_some_iff_getElem]
    obtain ⟨hj, rfl⟩ := List.getElem?_eq_some_iff.1 hy
    refine ⟨hh, j, hj, rfl, fun i hi => ?_⟩
    have := List.all_eq_true.1 ha R[i] (List.mem_iff_getElem?.2 ⟨i, by rw [List.getElem?_take, if_pos hi]; exact List.getElem?_eq_getElem _⟩)
    simpa using this
  rw [this]
theorem find_none_end {R : List SCue} (ha : R.all (fun z => !eqS z.Target tg) = true) : lvlEnd R tg time = time := by
  unfold lvlEnd
  have : R.find? (fun z => eqS z.Target tg) = none := by
    rw [List.find?_eq_none]
    intro z hz
    have := List.all_eq_true.1 ha z hz
    simpa using this
  rw [this]
theorem Rd.drop {α : Type} {w : World} {b o sz : Nat} {f : α → List Value} {L : List α} (h : Rd w (some ⟨b, o, none⟩) sz f L) (i : Nat) : Rd w (some ⟨b, o + i * sz, none⟩) sz f (L.drop i) := fun hn => by
  obtain ⟨b', o', e, hc⟩ := h (by rintro rfl; simp at hn)
  cases e
  refine ⟨b, o + i * sz, rfl, fun k x j u hk hj => ?_⟩
  rw [List.getElem?_drop] at hk
  have := hc (i + k) x j u hk hj
  rw [Nat.add_mul] at this
  rw [show o + i * sz + (k * sz + j) = o + (i * sz + k * sz + j) by omega]
  exact this
end
end Go.Proofs.Ytecakcgkibemaaa
