/-
  Words for results that are a new list and a code. No function in sight.
-/
import Derived.Test.YtmcddcdhppomkaaDoorMem
namespace Go.Proofs.YtmcddcdhppomkaaDoor
open Go.RowKit

section
variable {α : Type}
/-- The result: a list in memory of the call's own, and a code. -/
def Res (w : World) (T sz : Nat) (f : α → List Value) (R : List α × Int) (e : Ending) (w' : World) : Prop :=
  ∃ A c, e = .returned (.tuple #[.slice A R.1.length c, .int .i64 R.2]) ∧ G w w' ∧ w'.ownsRow w.heap.size T sz (.slice A R.1.length c) R.1.length (R.1.flatMap f)
variable {w w' : World} {T sz : Nat} {f : α → List Value} {R : List α × Int}
theorem res_nil {code : Int} (h : R = ([], code)) (hg : G w w') : Res w T sz f R (.returned (.tuple #[.slice none 0 0, .int .i64 code])) w' := by
  subst h
  exact ⟨none, 0, rfl, hg, World.ownsRow_nil _ _ _ _⟩
theorem res_own {M : List α} {v : Value} {n : Nat} {code : Int} (h : R = (M, code)) (hn : M.length = n) (ho : w'.ownsRow w.heap.size T sz v n (M.flatMap f)) (hg : G w w') : Res w T sz f R (.returned (.tuple #[v, .int .i64 code])) w' := by
  subst h
  subst hn
  rcases ho.2 with ⟨hv, hn0⟩ | ⟨g, cap, cur, hv, _⟩
  · rw [hv, hn0] at ho
    rw [hv]
    exact ⟨none, 0, by show Ending.returned _ = Ending.returned _; simp only [hn0], hg, by simp only [hn0]; exact ho⟩
  · rw [hv] at ho
    rw [hv]
    exact ⟨_, _, rfl, hg, ho⟩
theorem flat_snoc {M : List α} {k : Nat} {x : α} (h : M[k]? = some x) : (M.take k).flatMap f ++ f x = (M.take (k + 1)).flatMap f := by rw [take_snoc h, List.flatMap_append]; simp
theorem flat_put {M : List Int} {xs : List Value} {k n : Nat} {x : Int} (hl : xs.length = n * 1) (hk : k < n) (ht : xs.take k = (M.take k).flatMap iv) (hx : M[k]? = some x) : (xs.set k (.int .i64 x)).take (k + 1) = (M.take (k + 1)).flatMap iv := by
  rw [← flat_snoc hx, ← ht, List.take_set, List.take_succ_eq_append_getElem (by omega), List.set_append_right _ _ (by simp; omega)]
  simp [show k - min k xs.length = 0 by omega, iv]
theorem flat_all {M : List α} {xs : List Value} {k n : Nat} (hl : xs.length = n * sz) (hk : k = n) (hn : M.length = n) (ht : xs.take (k * sz) = (M.take k).flatMap f) : xs = M.flatMap f := by
  subst hk
  rw [List.take_of_length_le (by omega), List.take_of_length_le (by omega)] at ht
  exact ht
theorem own_block_of {w : World} {base : Nat} {e : TypeId} {size n : Nat} {v : Value} {xs : List Value} (h : w.ownsRow base e size v n xs) : ∀ k, v.ownBlock = some k → base ≤ k := fun k hk => (h.lt k hk).1
theorem map_at {β : Type} {L : List β} {g : β → α} {k : Nat} {x : β} (h : L[k]? = some x) : (L.map g)[k]? = some (g x) := by rw [List.getElem?_map, h]; rfl
/-- The cells of a block just laid. -/
theorem block_news (w : World) (cs : List Value) (T : Nat) : ∀ j u, cs[j]? = some u → (w.alloc (.cells cs.toArray T)).cell? ((⟨w.heap.size, 0, none⟩ : Addr).add j) = some u := by
  intro j u h
  have : ((⟨w.heap.size, 0, none⟩ : Addr).add j) = ⟨w.heap.size, j, none⟩ := by rw [Addr.add_lit, Nat.zero_add]
  rw [this]
  rw [World.cell?_alloc_at _ _ _ _ rfl]
  simpa using h
theorem int_oneCell (x : Int) : ∀ u ∈ [Value.int .i64 x], u.oneCell' = true := by
  intro u hu
  simp only [List.mem_singleton] at hu
  subst hu
  rfl
theorem str_oneCell (s : ByteArray) : ∀ u ∈ [Value.string s], u.oneCell' = true := by
  intro u hu
  simp only [List.mem_singleton] at hu
  subst hu
  rfl
theorem own_bd {w : World} {base T sz n c : Nat} {A : Option Addr} {xs : List Value} (h : w.ownsRow base T sz (.slice A n c) n xs) : ∀ a, A = some a → base ≤ a.block ∧ a.block < w.heap.size := fun a ha => h.lt a.block (by rw [ha]; rfl)
theorem own_ne {A B : Option Addr} {n c : Nat} (h : ∀ a b, A = some a → B = some b → a.block ≠ b.block) : (Value.slice A n c).ownBlock = none ∨ (Value.slice A n c).ownBlock ≠ B.map (·.block) := by
  cases A with
  | none => exact .inl rfl
  | some a =>
    right
    cases B with
    | none => simp [Value.ownBlock]
    | some b => simpa [Value.ownBlock] using h a b rfl rfl
theorem map_ne {A : Option Addr} {k : Nat} (h : ∀ a, A = some a → k ≠ a.block) : some k ≠ A.map (·.block) := by
  cases A with
  | none => simp
  | some a => intro e; simp at e; exact h a rfl e
theorem map_block {A : Option Addr} {B : Nat} (h : ∀ a, A = some a → B ≤ a.block) : ∀ i, A.map (·.block) = some i → B ≤ i := by
  cases A with
  | none => simp
  | some a => intro i hi; simp at hi; rw [← hi]; exact h a rfl
end
end Go.Proofs.YtmcddcdhppomkaaDoor
