/-
  Words for MixSamples: its result, the rows it makes, its small callees.
-/
import Derived.Test.YtmcddcdhppomkaaDoorMixMN
import Derived.Test.YtmcddcdhppomkaaDoorGainsMN
namespace Go.Proofs.YtmcddcdhppomkaaDoor
open Go.RowKit

/-- The result: two lists in memory of the call's own, apart from each other, and a code. -/
def Res2 (w : World) (T : TypeId) (R : List Int × List Int × Int) (e : Ending) (w' : World) : Prop :=
  ∃ A c B d, e = .returned (.tuple #[.slice A R.1.length c, .slice B R.2.1.length d, .int .i64 R.2.2]) ∧ G w w' ∧ (∀ a b, A = some a → B = some b → a.block ≠ b.block) ∧
    w'.ownsRow w.heap.size T 1 (.slice A R.1.length c) R.1.length (R.1.flatMap iv) ∧ w'.ownsRow w.heap.size T 1 (.slice B R.2.1.length d) R.2.1.length (R.2.1.flatMap iv)
theorem res2_nil {w w' : World} {T : TypeId} {R : List Int × List Int × Int} {code : Int} (h : R = ([], [], code)) (hg : G w w') : Res2 w T R (.returned (.tuple #[.slice none 0 0, .slice none 0 0, .int .i64 code])) w' := by
  subst h
  exact ⟨none, 0, none, 0, rfl, hg, (fun a b h => by cases h), World.ownsRow_nil _ _ _ _, World.ownsRow_nil _ _ _ _⟩
theorem res2_own {w w' : World} {T : TypeId} {R : List Int × List Int × Int} {M N : List Int} {q g1 g2 : Nat} (h : R = (M, N, 0)) (h1 : M.length = q) (h2 : N.length = q) (hg : G w w') (hne : g1 ≠ g2)
    (o1 : w'.ownsRow w.heap.size T 1 (.slice (some ⟨g1, 0, none⟩) q q) q (M.flatMap iv)) (o2 : w'.ownsRow w.heap.size T 1 (.slice (some ⟨g2, 0, none⟩) q q) q (N.flatMap iv)) :
    Res2 w T R (.returned (.tuple #[.slice (some ⟨g1, 0, none⟩) q q, .slice (some ⟨g2, 0, none⟩) q q, .int .i64 0])) w' := by
  subst h
  subst h1
  refine ⟨some ⟨g1, 0, none⟩, M.length, some ⟨g2, 0, none⟩, M.length, ?_, hg, (fun a b ha hb => by cases ha; cases hb; exact hne), o1, ?_⟩
  · show Ending.returned _ = Ending.returned _
    simp only [h2]
  · show w'.ownsRow _ _ _ _ N.length _
    simp only [h2]
    exact o2
theorem mostL_pre {M : List (List Int)} {k : Nat} (h : (M.take k).all vs = true) : mostL (M.take k) ≤ 64 := by
  have := mostL_bd h k
  rwa [List.take_take, Nat.min_self] at this
theorem infoZ : (Tryd.prog.info? 2).map (fun i => (i.zero, i.size, i.bytes)) = some (some (.int .i64 0), 1, 8) := by kernel_rfl
/-- Making a row of q zeros, in whatever world. -/
theorem make_ints (q : Nat) (hq : q ≤ 64) : ∃ cs : Array Value, cs.size = q ∧ cs.toList = List.replicate q (.int .i64 0) ∧ ∀ W : World, (Instr.makeSlice 24 (.int .i64 q) (.int .i64 q)).run Tryd.prog W = .ok (.slice (some ⟨W.heap.size, 0, none⟩) q q) (W.alloc (.cells cs 2)) := by
  obtain ⟨i0, hi, hz0, hz1, hz2⟩ := info_parts infoZ
  refine ⟨madeCells #[.int .i64 0] q, size_madeCells _ _, toList_madeCells_one _ _, fun W => ?_⟩
  have h := run_make (P := Tryd.prog) W 24 2 i0 (.int .i64 0) Tryd.underlying24 hi hz0 .i64 .i64 q q (by omega) (Int.le_refl _) (by rw [hz2]; omega) (by omega)
  simp only [Int.toNat_natCast, hz1, Nat.mul_one] at h
  exact h
theorem flat0 (n : Nat) : (List.replicate n (0 : Int)).flatMap iv = List.replicate n (.int .i64 0) := by
  induction n with
  | zero => rfl
  | succ n ih => rw [List.replicate_succ, List.replicate_succ, List.flatMap_cons, ih]; rfl
theorem flatI (L : List Int) : L.flatMap iv = L.map (Value.int .i64) := by
  induction L with
  | nil => rfl
  | cons x L ih => rw [List.flatMap_cons, ih]; rfl
theorem flatI_at {L : List Int} {k : Nat} {x : Int} (h : L[k]? = some x) : (L.flatMap iv)[k]? = some (.int .i64 x) := by rw [flatI, List.getElem?_map, h]; rfl
theorem flatI_set (L : List Int) (k : Nat) (x : Int) : (L.flatMap iv).set k (.int .i64 x) = (L.set k x).flatMap iv := by rw [flatI, flatI, List.map_set]
theorem panC_bd (p : Int) : -1000000 ≤ panC p ∧ panC p ≤ 1000000 := by
  cases h : inB p (-1000) 1000
  · unfold panC; rw [if_pos h]; decide
  · have hb := inB_iff.1 h
    have := pan_facts hb.1 hb.2
    omega
theorem panS_bd (p : Int) : -1000000 ≤ panS p ∧ panS p ≤ 1000000 := by
  cases h : inB p (-1000) 1000
  · unfold panS; rw [if_pos h]; decide
  · have hb := inB_iff.1 h
    have := pan_facts hb.1 hb.2
    omega
theorem all_takeR {M : List (List Int)} (h : M.all vs = true) (k : Nat) : (M.take k).all vs = true := by
  rw [List.all_eq_true] at h ⊢
  exact fun x hx => h x (List.mem_of_mem_take hx)
theorem panC_in {p : Int} (h : -1000 ≤ p ∧ p ≤ 1000) : panC p = snA ((p + 1000) * 45 + 90000) := by unfold panC; rw [if_neg (by rw [inB_mk h]; simp)]
theorem panS_in {p : Int} (h : -1000 ≤ p ∧ p ≤ 1000) : panS p = snA ((p + 1000) * 45) := by unfold panS; rw [if_neg (by rw [inB_mk h]; simp)]
set_option maxHeartbeats 400000 in
theorem clipN_any (n : Int) (w : World) :
    Calls Tryd.prog 24 #[.int .i64 n] w fun e w' => e = .returned (.int .i64 (clipN n)) ∧ w = w' := by
  go_enter Tryd.func24, Tryd.ntmps24
  go_wp2
  go_ret
  exact ⟨rfl, rfl⟩
end Go.Proofs.YtmcddcdhppomkaaDoor
