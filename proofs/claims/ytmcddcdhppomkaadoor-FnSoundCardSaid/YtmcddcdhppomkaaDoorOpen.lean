/-
  What a claim's frame wants: arguments opened, all arguments read again behind a call that turned nothing old.
-/
import Derived.Test.YtmcddcdhppomkaaDoorRows
import Derived.Test.YtmcddcdhppomkaaDoorBase
import Derived.ProofKit
import Derived.OpenShut
import Derived.ShutString
import Derived.ChangeOld
import Derived.Below
import Derived.Deep.Slices
import Derived.Deep.Fields
import Derived.ChangeSame
namespace Go.Proofs.YtmcddcdhppomkaaDoor
open Go.ChangeShapes Go.WideShapes Go.ChangeAt Go.RowKit

theorem own : ownKnob Tryd.prog.godebug = none := by kernel_rfl
theorem laidOut : laidOutB Tryd.prog = true := by kernel_rfl

/-- All arguments read behind the call as they read before. -/
theorem trodAll_below {H : Type} {enc : TypeId × Value → H} {P : Program} (hl : laidOutB P = true) {W W' : World} (hb : Below W.heap.size W W') :
    ∀ {ts : List TypeId} {vs : List Value} {ds : List (DataW H)} {ps : List MemPlace}, ts.all (fun t => P.readableRec t && decide (t < P.types.size)) = true →
      DataW.TrodAll enc P W 0 (fun _ => true) true ts vs ds ps → DataW.TrodAll enc P W' 0 (fun b => decide (b < W.heap.size)) true ts vs ds ps
  | [], vs, ds, ps, _, h => by
    obtain ⟨rfl, rfl, rfl⟩ := trodAll_nil h
    exact trodAll_mk0
  | t :: ts, vs, ds, ps, ha, h => by
    obtain ⟨v, vs', d, ds', p, q, rfl, rfl, rfl, h0, h1⟩ := trodAll_cons h
    simp only [List.all_cons, Bool.and_eq_true, decide_eq_true_eq] at ha
    refine trodAll_cons_mk (Below.trod hl ha.1.1 ha.1.2 h0 hb ?_) (trodAll_below hl hb (by simpa using ha.2) h1)
    obtain ⟨m, hm⟩ := h0
    exact DataW.trod_lt m _ _ _ hm

/-- A slice of integers that came in: nil, or a row of cells. -/
theorem slice_ints {H : Type} {enc : TypeId × Value → H} {P : Program} {W : World} {K : IntKind} {t e : TypeId} {a : Option Addr} {len cap : Nat} {d : DataW H} {p : List MemPlace} (ht : P.underlying t = some (.slice e)) (he : P.underlying e = some (.int K)) (hc : P.cellsOf e = 1)
    (h : DataW.Trod enc P W 0 (fun _ => true) true t (.slice a len cap) d p) : ∃ zs, IsRow K W a len cap zs := by
  obtain ⟨fuel, hf⟩ := h
  rcases open_ints ht he hc hf with ⟨hcs, _⟩ | ⟨x, l, c, zs, hcs, _, hl, hm, hz, _, hcell, hwz⟩
  · simp [Value.cells] at hcs
    obtain ⟨rfl, rfl, rfl⟩ := hcs
    exact ⟨[], .inl ⟨rfl, rfl, rfl, rfl⟩⟩
  · simp [Value.cells] at hcs
    obtain ⟨rfl, rfl, rfl⟩ := hcs
    exact ⟨zs, .inr ⟨_, rfl, hl, hm, by simpa using hz, hcell, hwz⟩⟩

theorem list_of {α : Type} (n : Nat) (Q : Nat → α → Prop) (h : ∀ i, i < n → ∃ x, Q i x) : ∃ L : List α, L.length = n ∧ ∀ i x, L[i]? = some x → Q i x := by
  induction n with
  | zero => exact ⟨[], rfl, fun i x hi => by simp at hi⟩
  | succ n ih =>
    obtain ⟨L, hl, hL⟩ := ih (fun i hi => h i (by omega))
    obtain ⟨x, hx⟩ := h n (by omega)
    refine ⟨L ++ [x], by simp [hl], fun i y hi => ?_⟩
    by_cases hi2 : i < n
    · rw [List.getElem?_append_left (by omega)] at hi
      exact hL i y hi
    · rw [List.getElem?_append_right (by omega), hl] at hi
      have hi3 : i - n = 0 := by
        have := (List.getElem?_eq_some_iff.1 hi).1
        simp at this
        omega
      rw [hi3] at hi
      simp at hi
      subst hi
      rw [show i = n by omega]
      exact hx

section
variable {H : Type} {enc : TypeId × Value → H} {P : Program} {W : World} {base : Nat} {spare : Nat → Bool} {held : Bool}
/-- The cells of a struct whose fields are one cell each: each reads by its own type. -/
theorem trod_fields {t : TypeId} {fs : Array Field} {fuel : Nat} {cs : List Value} {x : DataW H × List MemPlace} (ht : P.underlying t = some (.struct fs)) (hone : Deep.oneCellFields P fs = true)
    (h : DataW.trod enc P W base spare held fuel t cs = some x) : cs.length = P.cellsOf t ∧ ∃ n, ∀ (i : Nat) (f : Field) (c : Value), fs[i]? = some f → cs[i]? = some c → ∃ y, DataW.trod enc P W base spare held n f.type [c] = some y := by
  obtain ⟨xs, n, _, _, hl, hxl, hf⟩ := DataW.trod_struct ht h
  refine ⟨hl, n, fun i f c hi hc => ?_⟩
  obtain ⟨ho, hk⟩ := Deep.hone_of hone i f hi
  have h1 := hf i f hi
  have hlt := (List.getElem?_eq_some_iff.1 hc).1
  have e : (cs.drop i).take 1 = [c] := by
    rw [List.drop_eq_getElem_cons hlt]
    simp only [List.take_succ_cons, List.take_zero, List.cons.injEq, and_true]
    exact (List.getElem?_eq_some_iff.1 hc).2
  rw [ho, hk, e] at h1
  have hil : i < xs.length := by rw [hxl]; exact (Array.getElem?_eq_some_iff.1 hi).1
  exact ⟨_, h1.trans (List.getElem?_eq_getElem hil)⟩

/-- A slice of elements of several cells, each of them read as an x. -/
theorem slice_elems {α : Type} {t e : TypeId} {sz : Nat} {f : α → List Value} {wf : α → Prop} {a : Option Addr} {len cap : Nat} {d : DataW H} {p : List MemPlace} (ht : P.underlying t = some (.slice e)) (hsz : P.cellsOf e = sz) (hpos : 0 < sz)
    (hel : ∀ (fuel : Nat) (cs : List Value) (y : DataW H × List MemPlace), DataW.trod enc P W base spare held fuel e cs = some y → ∃ x : α, cs = f x ∧ wf x)
    (h : DataW.Trod enc P W base spare held t (.slice a len cap) d p) : ∃ L : List α, len ≤ maxLen ∧ L.length = len ∧ Rd W a sz f L ∧ ∀ x ∈ L, wf x := by
  obtain ⟨fuel, hf⟩ := h
  rcases Deep.open_slice ht hf with ⟨hcs, _⟩ | ⟨ad, l, c, m, n, D, Pl, hcs, _, hl, hm, hmm, _, hi⟩
  · simp [Value.cells] at hcs
    obtain ⟨rfl, rfl, rfl⟩ := hcs
    exact ⟨[], by simp [maxLen], rfl, Rd.nil _ _ _ _, fun x hx => by simp at hx⟩
  · simp [Value.cells] at hcs
    obtain ⟨rfl, rfl, rfl⟩ := hcs
    have hlm : len ≤ m := by rw [hmm]; split <;> omega
    obtain ⟨L, hL, hQ⟩ := list_of len (fun i (x : α) => W.cells? base (ad.add (i * sz)) sz = some (f x) ∧ wf x) (fun i hil => by
      obtain ⟨cs', h1, h2⟩ := hi i (by omega)
      obtain ⟨x, hx, hw⟩ := hel _ _ _ h2
      rw [hsz] at h1
      exact ⟨x, by rw [← hx]; exact h1, hw⟩)
    refine ⟨L, by omega, hL, fun hn => ?_, fun x hx => ?_⟩
    · obtain ⟨b, o, spot⟩ := ad
      have hpos2 : 0 < len := by
        rw [← hL]
        cases L with
        | nil => exact absurd rfl hn
        | cons => simp
      have hx0 : L[0]? = some (L[0]'(by omega)) := List.getElem?_eq_getElem (by omega)
      obtain ⟨_, hcl, hat⟩ := World.cells?_some (hQ 0 _ hx0).1
      have h0 := hat 0 hpos
      rw [List.getElem?_eq_getElem (by omega)] at h0
      have hspot : spot = none := by simpa [Addr.add] using World.cell?_spot h0
      subst hspot
      refine ⟨b, o, rfl, fun i x j u hi hj => ?_⟩
      obtain ⟨_, hcl, hat⟩ := World.cells?_some (hQ i x hi).1
      have hj2 := hat j (by rw [← hcl]; exact (List.getElem?_eq_some_iff.1 hj).1)
      rw [Addr.add_mid, Addr.add_mid, hj, Nat.add_assoc] at hj2
      exact hj2
    · obtain ⟨i, hi⟩ := List.mem_iff_getElem?.1 hx
      exact (hQ i x hi).2
end
end Go.Proofs.YtmcddcdhppomkaaDoor
