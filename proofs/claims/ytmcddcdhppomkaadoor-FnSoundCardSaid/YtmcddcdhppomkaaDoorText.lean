/-
  Walks: the law's marks as texts.
-/
import Derived.Test.YtmcddcdhppomkaaDoorBase
import Derived.Deep.RegionHeld3
namespace Go.Proofs.YtmcddcdhppomkaaDoor
open Go.RowKit

/-- One byte as a text. -/
def bt (x : Int) : ByteArray := ByteArray.empty.push (UInt8.ofNat x.toNat)
theorem bt_size (x : Int) : (bt x).size ≤ 1 := Nat.le_refl _
theorem conv_byte (w : World) (x : Int) : (convert 22 9 (.slice (some ⟨w.heap.size, 0, none⟩) 1 1)).run Tryd.prog (w.alloc (.cells #[.int .u8 x] 5)) = .ok (.string (bt x)) (w.alloc (.cells #[.int .u8 x] 5)) := by
  rw [run_convert_bytes_string _ _ _ 5 _ _ _ Tryd.underlying22 Tryd.underlying5 Tryd.underlying9]
  have := run_bytesToString (P := Tryd.prog) (w.alloc (.cells #[.int .u8 x] 5)) ⟨w.heap.size, 0, none⟩ 1 1 [x] (run_loadCells_list _ _ [.int .u8 x] (fun j v hv => by
    match j, hv with
    | 0, hv =>
      simp only [List.getElem?_cons_zero, Option.some.injEq] at hv
      subst hv
      rw [Addr.add_mid, World.cell?_alloc_at _ _ _ _ rfl]
      rfl
    | j + 1, hv => simp at hv))
  rw [this]
  rfl
/-- The digits of j ahead of t. -/
def mtLoop : Nat → Nat → ByteArray → ByteArray
  | 0, _, t => t
  | f + 1, j, t => if j = 0 then t else mtLoop f (j / 10) (bt (48 + (j : Int) % 10) ++ t)
theorem mtLoop_zero (f : Nat) (t : ByteArray) : mtLoop f 0 t = t := by cases f <;> simp [mtLoop]
theorem mtLoop_succ (f j : Nat) (t : ByteArray) (h : 0 < j) : mtLoop (f + 1) j t = mtLoop f (j / 10) (bt (48 + (j : Int) % 10) ++ t) := by rw [mtLoop, if_neg (by omega)]
/-- The mark of a number. -/
def mt (k : Int) : ByteArray := if k ≤ 0 then ⟨#[109, 48]⟩ else ⟨#[109]⟩ ++ mtLoop k.toNat k.toNat ⟨#[]⟩
theorem ret_string {a b : ByteArray} (h : a = b) : Ending.returned (.string a) = .returned (.string b) := by rw [h]

/-- A measured size: -1 where there is none. -/
def szR (y : Int) : Int := if y < 0 then -1 else y
theorem szR_neg {y : Int} (h : y < 0) : szR y = -1 := by unfold szR; rw [if_pos h]
theorem szR_pos {y : Int} (h : 0 ≤ y) : szR y = y := by unfold szR; rw [if_neg (by omega)]
section
variable {α : Type} (f : α → Int)
def tot (L : List α) : Int := L.foldl (fun s x => s + f x) 0
theorem tot_from (L : List α) (s : Int) : L.foldl (fun s x => s + f x) s = s + tot f L := by
  induction L generalizing s with
  | nil => simp [tot]
  | cons y L ih =>
    simp only [tot, List.foldl_cons]
    rw [ih, ih (0 + f y)]
    omega
theorem tot_append (L M : List α) : tot f (L ++ M) = tot f L + tot f M := by
  unfold tot
  rw [List.foldl_append, tot_from]
  rfl
theorem tot_nonneg (hf : ∀ x, 0 ≤ f x) (L : List α) : 0 ≤ tot f L := by
  have : ∀ (L : List α) (s : Int), 0 ≤ s → 0 ≤ L.foldl (fun s x => s + f x) s := by
    intro L
    induction L with
    | nil => intro s h; exact h
    | cons y L ih => intro s h; exact ih _ (by have := hf y; show 0 ≤ s + f y; omega)
  exact this L 0 (by omega)
theorem tot_take (hf : ∀ x, 0 ≤ f x) (L : List α) (k : Nat) : tot f (L.take k) ≤ tot f L := by
  have h := tot_append f (L.take k) (L.drop k)
  rw [List.take_append_drop] at h
  have := tot_nonneg f hf (L.drop k)
  omega
theorem tot_snoc {L : List α} {k : Nat} {x : α} (h : L[k]? = some x) : tot f (L.take (k + 1)) = tot f (L.take k) + f x := by
  rw [take_snoc h, tot_append]
  simp [tot]
end
/-- Cells set one behind the other. -/
def setL : List Value → Nat → List Value → List Value
  | xs, _, [] => xs
  | xs, o, v :: r => setL (xs.set o v) (o + 1) r
theorem setL_eq : ∀ (vs : List Value) (o : Nat) (xs : List Value), o + vs.length ≤ xs.length → setL xs o vs = xs.take o ++ vs ++ xs.drop (o + vs.length)
  | [], o, xs, _ => by simp [setL]
  | v :: r, o, xs, h => by
    simp only [List.length_cons] at h
    rw [setL, setL_eq r (o + 1) (xs.set o v) (by simp; omega), List.take_set, List.take_succ_eq_append_getElem (by omega), List.set_append_right _ _ (by simp; omega), List.drop_set_of_lt (by omega)]
    have e : o - min o xs.length = 0 := by omega
    simp only [List.length_take, e, List.set_cons_zero, List.append_assoc, List.cons_append, List.nil_append, List.length_cons]
    rw [show o + 1 + r.length = o + (r.length + 1) by omega]
theorem take_setL {xs cs pre : List Value} {k sz n : Nat} (hl : xs.length = n * sz) (hk : k < n) (ht : xs.take (k * sz) = pre) (hc : cs.length = sz) :
    (setL xs (k * sz) cs).take ((k + 1) * sz) = pre ++ cs := by
  have h1 : k * sz + sz ≤ n * sz := by rw [← Nat.succ_mul]; exact Nat.mul_le_mul_right _ hk
  rw [setL_eq _ _ _ (by omega)]
  exact take_put hl hk ht hc
end Go.Proofs.YtmcddcdhppomkaaDoor
