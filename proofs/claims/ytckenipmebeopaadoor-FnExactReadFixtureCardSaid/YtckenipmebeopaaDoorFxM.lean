/-
  Plain laws of the text of a fixture.
-/
import Derived.Test.YtckenipmebeopaaDoorTxtM
import Derived.Test.YtckenipmebeopaaDoorFixText
namespace Go.Proofs.YtckenipmebeopaaDoor
open Go.RowKit

theorem name_free {s : ByteArray} (h : nameB s = true) {c : UInt8} (hc : wordB c = false) : c ∉ s.data.toList := fun hm => by
  simp only [nameB, Bool.and_eq_true] at h
  have := List.all_eq_true.1 h.2 c hm
  rw [hc] at this
  cases this
def fx3 (x : SFixture) : List UInt8 := Lib.itoa x.Address ++ 43 :: Lib.itoa x.Width
def fx2 (x : SFixture) : List UInt8 := Lib.itoa x.Universe ++ 46 :: fx3 x
def fx1 (x : SFixture) : List UInt8 := x.Name.data.toList ++ 32 :: fx2 x
theorem fixT_L (x : SFixture) : fixT x = mkB (fx1 x) := by
  unfold fixT fx1 fx2 fx3
  rw [show dec x.Universe = mkB (Lib.itoa x.Universe) from rfl, show dec x.Address = mkB (Lib.itoa x.Address) from rfl, show dec x.Width = mkB (Lib.itoa x.Width) from rfl]
  conv => lhs; rw [← mkB_of x.Name]
  rw [show (⟨#[32]⟩ : ByteArray) = mkB [32] from rfl, show (⟨#[46]⟩ : ByteArray) = mkB [46] from rfl, show (⟨#[43]⟩ : ByteArray) = mkB [43] from rfl]
  simp only [mkB_append, List.append_assoc, List.cons_append, List.nil_append]
theorem itoa_no (n : Int) {c : UInt8} (h : c = 32 ∨ c = 46 ∨ c = 43) : c ∉ Lib.itoa n := by
  rcases h with rfl | rfl | rfl <;> exact itoa_free (by decide) (by decide)
theorem fx3_no (x : SFixture) {c : UInt8} (h : c = 32 ∨ c = 46) : c ∉ fx3 x := by
  unfold fx3
  simp only [List.mem_append, List.mem_cons, not_or]
  refine ⟨itoa_no _ (h.elim .inl (fun e => .inr (.inl e))), ?_, itoa_no _ (h.elim .inl (fun e => .inr (.inl e)))⟩
  rcases h with rfl | rfl <;> decide
theorem fx2_no (x : SFixture) : (32 : UInt8) ∉ fx2 x := by
  unfold fx2
  simp only [List.mem_append, List.mem_cons, not_or]
  exact ⟨itoa_no _ (.inl rfl), by decide, fx3_no x (.inl rfl)⟩
theorem vfB_name {x : SFixture} (h : vfB x = true) : nameB x.Name = true := by
  unfold vfB at h
  simp only [Bool.and_eq_true] at h
  exact h.1.1.1
section
variable {x : SFixture}
theorem fx_s1 (h : vfB x = true) : splitS 32 (fixT x) = [x.Name, mkB (fx2 x)] := by
  unfold splitS
  rw [fixT_L, mkB_data]
  unfold fx1
  rw [split_hit 32 _ _ (name_free (vfB_name h) (by decide)), split_miss 32 _ (fx2_no x)]
  simp [mkB_of]
theorem fx_s2 (x : SFixture) : splitS 46 (mkB (fx2 x)) = [mkB (Lib.itoa x.Universe), mkB (fx3 x)] := by
  unfold splitS
  rw [mkB_data]
  unfold fx2
  rw [split_hit 46 _ _ (itoa_no _ (.inr (.inl rfl))), split_miss 46 _ (fx3_no x (.inr rfl))]
  rfl
theorem fx_s3 (x : SFixture) : splitS 43 (mkB (fx3 x)) = [mkB (Lib.itoa x.Address), mkB (Lib.itoa x.Width)] := by
  unfold splitS
  rw [mkB_data]
  unfold fx3
  rw [split_hit 43 _ _ (itoa_no _ (.inr (.inr rfl))), split_miss 43 _ (itoa_no _ (.inr (.inr rfl)))]
  rfl
theorem fx_c1 (h : vfB x = true) : cutA 32 (fixT x) = x.Name ∧ cutB 32 (fixT x) = mkB (fx2 x) := by
  unfold cutA cutB
  rw [fixT_L, mkB_data]
  unfold fx1
  rw [cut_hit (name_free (vfB_name h) (by decide))]
  exact ⟨mkB_of _, rfl⟩
theorem fx_c2 (x : SFixture) : cutA 46 (mkB (fx2 x)) = mkB (Lib.itoa x.Universe) ∧ cutB 46 (mkB (fx2 x)) = mkB (fx3 x) := by
  unfold cutA cutB
  rw [mkB_data]
  unfold fx2
  rw [cut_hit (itoa_no _ (.inr (.inl rfl)))]
  exact ⟨rfl, rfl⟩
theorem fx_c3 (x : SFixture) : cutA 43 (mkB (fx3 x)) = mkB (Lib.itoa x.Address) ∧ cutB 43 (mkB (fx3 x)) = mkB (Lib.itoa x.Width) := by
  unfold cutA cutB
  rw [mkB_data]
  unfold fx3
  rw [cut_hit (itoa_no _ (.inr (.inr rfl)))]
  exact ⟨rfl, rfl⟩
theorem fx_nums (h : vfB x = true) : num (mkB (Lib.itoa x.Universe)) = some x.Universe ∧ num (mkB (Lib.itoa x.Address)) = some x.Address ∧ num (mkB (Lib.itoa x.Width)) = some x.Width := by
  have := vfB_bd h
  exact ⟨num_itoa (by omega) (by omega), num_itoa (by omega) (by omega), num_itoa (by omega) (by omega)⟩
end
def fxZ : SFixture := ⟨⟨#[]⟩, 0, 0, 0⟩
def FxOf (s : ByteArray) (x : SFixture) : Prop := vfB x = true ∧ fixT x = s
/-- What a text says of its fixture. -/
theorem FxOf.parts {s : ByteArray} {x : SFixture} (h : FxOf s x) : ∃ y z a b u, splitS 32 s = [x.Name, y] ∧ splitS 46 y = [u, z] ∧ splitS 43 z = [a, b] ∧ cutA 32 s = x.Name ∧ cutB 32 s = y ∧ cutA 46 y = u ∧ cutB 46 y = z ∧ cutA 43 z = a ∧ cutB 43 z = b ∧ okN u = true ∧ okN a = true ∧ okN b = true ∧ x = ⟨x.Name, valN u, valN a, valN b⟩ := by
  obtain ⟨hv, rfl⟩ := h
  have hn := fx_nums hv
  have k1 := okN_of hn.1
  have k2 := okN_of hn.2.1
  have k3 := okN_of hn.2.2
  refine ⟨_, _, _, _, _, fx_s1 hv, fx_s2 x, fx_s3 x, (fx_c1 hv).1, (fx_c1 hv).2, (fx_c2 x).1, (fx_c2 x).2, (fx_c3 x).1, (fx_c3 x).2, k1.1, k2.1, k3.1, ?_⟩
  rw [k1.2, k2.2, k3.2]
theorem FxOf.uniq {s : ByteArray} {x x2 : SFixture} (h : FxOf s x) (k : FxOf s x2) : x = x2 := by
  obtain ⟨y, z, a, b, u, h1, h2, h3, -, -, -, -, -, -, -, -, -, e1⟩ := h.parts
  obtain ⟨y2, z2, a2, b2, u2, k1, k2, k3, -, -, -, -, -, -, -, -, -, e2⟩ := k.parts
  rw [h1] at k1
  simp only [List.cons.injEq, and_true] at k1
  obtain ⟨e3, rfl⟩ := k1
  rw [h2] at k2
  simp only [List.cons.injEq, and_true] at k2
  obtain ⟨rfl, rfl⟩ := k2
  rw [h3] at k3
  simp only [List.cons.injEq, and_true] at k3
  obtain ⟨rfl, rfl⟩ := k3
  rw [e1, e2, e3]
open Classical in
noncomputable def rfR (s : ByteArray) : SFixture × Bool := if h : ∃ x, FxOf s x then (h.choose, true) else (fxZ, false)
theorem rfR_of {s : ByteArray} {x : SFixture} (h : FxOf s x) : rfR s = (x, true) := by
  unfold rfR
  rw [dif_pos ⟨x, h⟩]
  congr 1
  exact FxOf.uniq (Exists.choose_spec (⟨x, h⟩ : ∃ x, FxOf s x)) h
theorem rfR_no {s : ByteArray} (h : ∀ x, ¬ FxOf s x) : rfR s = (fxZ, false) := by
  unfold rfR
  rw [dif_neg (fun ⟨x, e⟩ => h x e)]
/-! The reference's road. -/
theorem rf_len1 {s : ByteArray} (h : (splitS 32 s).length ≠ 2) : rfR s = (fxZ, false) := rfR_no fun x hx => by
  obtain ⟨y, z, a, b, u, h1, -⟩ := hx.parts
  rw [h1] at h
  exact h rfl
theorem rf_len2 {s n y : ByteArray} (h1 : splitS 32 s = [n, y]) (h : (splitS 46 y).length ≠ 2) : rfR s = (fxZ, false) := rfR_no fun x hx => by
  obtain ⟨y, z, a, b, u, k1, k2, -⟩ := hx.parts
  rw [h1] at k1
  simp only [List.cons.injEq, and_true] at k1
  rw [k1.2, k2] at h
  exact h rfl
theorem rf_len3 {s n y u z : ByteArray} (h1 : splitS 32 s = [n, y]) (h2 : splitS 46 y = [u, z]) (h : (splitS 43 z).length ≠ 2) : rfR s = (fxZ, false) := rfR_no fun x hx => by
  obtain ⟨y, z, a, b, u, k1, k2, k3, -⟩ := hx.parts
  rw [h1] at k1
  simp only [List.cons.injEq, and_true] at k1
  rw [k1.2, k2] at h2
  simp only [List.cons.injEq, and_true] at h2
  rw [← h2.2, k3] at h
  exact h rfl
theorem rf_eq {s n y u z a b : ByteArray} (h1 : splitS 32 s = [n, y]) (h2 : splitS 46 y = [u, z]) (h3 : splitS 43 z = [a, b]) :
    rfR s = if okN u = true ∧ okN a = true ∧ okN b = true ∧ vfB ⟨n, valN u, valN a, valN b⟩ = true then (⟨n, valN u, valN a, valN b⟩, true) else (fxZ, false) := by
  by_cases hc : okN u = true ∧ okN a = true ∧ okN b = true ∧ vfB ⟨n, valN u, valN a, valN b⟩ = true
  · rw [if_pos hc]
    refine rfR_of ⟨hc.2.2.2, ?_⟩
    have e1 := (num_some (num_okN hc.1)).2.2
    have e2 := (num_some (num_okN hc.2.1)).2.2
    have e3 := (num_some (num_okN hc.2.2.1)).2.2
    have j : ∀ {c : UInt8} {t p q : ByteArray}, splitS c t = [p, q] → t = mkB (p.data.toList ++ c :: q.data.toList) := fun {c t p q} h => by
      have := join_split c t.data.toList
      have e : splitL c t.data.toList = [p.data.toList, q.data.toList] := by
        refine map_inj' (fun _ _ => mkB_inj) ?_
        simp only [List.map_cons, List.map_nil, mkB_of]
        exact h
      rw [e] at this
      rw [← mkB_of t, ← this]
      rfl
    rw [fixT_L]
    unfold fx1 fx2 fx3
    rw [j h1, j h2, j h3, mkB_data, mkB_data]
    have f1 : Lib.itoa (valN u) = u.data.toList := by simpa only [mkB_data] using congrArg (fun t : ByteArray => t.data.toList) e1
    have f2 : Lib.itoa (valN a) = a.data.toList := by simpa only [mkB_data] using congrArg (fun t : ByteArray => t.data.toList) e2
    have f3 : Lib.itoa (valN b) = b.data.toList := by simpa only [mkB_data] using congrArg (fun t : ByteArray => t.data.toList) e3
    simp only [f1, f2, f3]
  · rw [if_neg hc]
    refine rfR_no fun x hx => hc ?_
    obtain ⟨y', z', a', b', u', k1, k2, k3, -, -, -, -, -, -, o1, o2, o3, e⟩ := hx.parts
    rw [h1] at k1
    simp only [List.cons.injEq, and_true] at k1
    obtain ⟨e3, rfl⟩ := k1
    rw [h2] at k2
    simp only [List.cons.injEq, and_true] at k2
    obtain ⟨rfl, rfl⟩ := k2
    rw [h3] at k3
    simp only [List.cons.injEq, and_true] at k3
    obtain ⟨rfl, rfl⟩ := k3
    refine ⟨o1, o2, o3, ?_⟩
    rw [e3, ← e]
    exact hx.1
/-! The program's road. -/
theorem rf_cut (s : ByteArray) {n y u z a b : ByteArray} (h1 : cutA 32 s = n) (h2 : cutB 32 s = y) (h3 : cutA 46 y = u) (h4 : cutB 46 y = z) (h5 : cutA 43 z = a) (h6 : cutB 43 z = b) :
    rfR s = if okN u = true ∧ okN a = true ∧ okN b = true ∧ vfB ⟨n, valN u, valN a, valN b⟩ = true ∧ fixT ⟨n, valN u, valN a, valN b⟩ = s then (⟨n, valN u, valN a, valN b⟩, true) else (fxZ, false) := by
  by_cases hc : okN u = true ∧ okN a = true ∧ okN b = true ∧ vfB ⟨n, valN u, valN a, valN b⟩ = true ∧ fixT ⟨n, valN u, valN a, valN b⟩ = s
  · rw [if_pos hc]
    exact rfR_of ⟨hc.2.2.2.1, hc.2.2.2.2⟩
  · rw [if_neg hc]
    refine rfR_no fun x hx => hc ?_
    obtain ⟨y', z', a', b', u', -, -, -, k1, k2, k3, k4, k5, k6, o1, o2, o3, e⟩ := hx.parts
    rw [h1] at k1
    rw [h2] at k2
    subst k1 k2
    rw [h3] at k3
    rw [h4] at k4
    subst k3 k4
    rw [h5] at k5
    rw [h6] at k6
    subst k5 k6
    rw [← e]
    exact ⟨o1, o2, o3, hx.1, hx.2⟩
end Go.Proofs.YtckenipmebeopaaDoor
