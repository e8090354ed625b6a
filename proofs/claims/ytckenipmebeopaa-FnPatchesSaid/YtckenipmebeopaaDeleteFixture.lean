/-
  Walks: slices.Delete at Fixture, one element.
-/
import Derived.Test.YtckenipmebeopaaCloneFixture
namespace Go.Proofs.Ytckenipmebeopaa
open Go.RowKit

theorem zeroFixture (w : World) : (zeroValue 34).run Try.prog w = .ok (.agg #[.string ⟨#[]⟩, .int .i64 0, .int .i64 0, .int .i64 0]) w := by
  obtain ⟨i0, hi, hz0, hz1, hz2⟩ := info_parts infoFixture
  simp [zeroValue, typeInfo, hi, hz0]

set_option maxRecDepth 1000000 in
set_option maxHeartbeats 4000000 in
theorem deleteFixture_any (base g n cap i : Nat) (L : List SFixture) (w : World) (ho : w.ownsRow base 34 4 (.slice (some ⟨g, 0, none⟩) n cap) n (L.flatMap cFixture)) (hn : L.length = n) (hb : n ≤ 4194304) (hi : i < n) :
    Calls Try.prog 40 #[.slice (some ⟨g, 0, none⟩) n cap, .int .i64 i, .int .i64 ((i : Int) + 1)] w fun e w' => e = .returned (.slice (some ⟨g, 0, none⟩) (n - 1) cap) ∧ w'.ownsRow base 34 4 (.slice (some ⟨g, 0, none⟩) (n - 1) cap) (n - 1) ((L.eraseIdx i).flatMap cFixture) ∧ Gx (some g) w w' := by
  obtain ⟨i0, hi0, hz0, hz1, hz2⟩ := info_parts infoFixture
  have hcp := own_cap ho
  unfold maxLen at hcp
  have hcap := hcp.1
  have hmax := hcp.2
  have HLL := Lib.hid (flat_len cFixture_len L)
  obtain ⟨news, hnews⟩ : ∃ news, news = (L.drop (i + 1)).flatMap cFixture := ⟨_, rfl⟩
  have hnl : news.length = (n - (i + 1)) * 4 := by rw [hnews, flat_len cFixture_len, List.length_drop, hn]
  obtain ⟨A, hA, hsrc⟩ : ∃ A : Addr, (if cap = i + 1 then some (⟨g, 0, none⟩ : Addr) else some ⟨g, (i + 1) * 4, none⟩) = some A ∧ Hid (∀ t u, news[t]? = some u → w.drew.cell? (A.add t) = some u) := by
    by_cases h : cap = i + 1
    · refine ⟨⟨g, 0, none⟩, by simp [h], fun t u hu => ?_⟩
      have h0 : news.length = 0 := by rw [hnl]; omega
      rw [List.length_eq_zero_iff.1 h0] at hu
      simp at hu
    · refine ⟨⟨g, (i + 1) * 4, none⟩, by simp [h], fun t u hu => ?_⟩
      rw [Addr.add_lit]
      refine own_cellAt_mid (own_drew ho) ?_
      rw [hnews, ← flat_drop cFixture_len, List.getElem?_drop] at hu
      exact hu
  have s1 := Lib.hid hnl
  have s2 : Hid (∀ u ∈ news, u.oneCell' = true) := by rw [hnews]; exact flat_one cFixture_one _
  have s3 : Hid (∀ t, t < news.length → (w.drew.cell? ⟨g, 0 + i * 4 + t, none⟩).isSome = true ∧ w.drew.frozen? ⟨g, 0 + i * 4 + t, none⟩ = false) := by
    intro t ht
    exact own_room (own_drew ho) (by rw [hnl] at ht; omega)
  obtain ⟨W1, hW1⟩ : ∃ W1, W1 = w.drew.setCells g (0 + i * 4) news := ⟨_, rfl⟩
  have o1 := own_setCells news (i * 4) (own_drew ho) (by rw [hnl]; omega)
  rw [show w.drew.setCells g (i * 4) news = W1 by rw [hW1, Nat.zero_add]] at o1
  have hcl : ∀ ty, (Builtin.clear_ #[24] ty #[.slice (some ⟨g, (i + (n - (i + 1))) * 4, none⟩) (n - (i + (n - (i + 1)))) (cap - (i + (n - (i + 1))))]).run Try.prog W1 = .ok (.tuple #[]) (W1.setCells g ((i + (n - (i + 1))) * 4) (Builtin.zeroCells (.agg #[.string ⟨#[]⟩, .int .i64 0, .int .i64 0, .int .i64 0] : Value).cells (n - (i + (n - (i + 1))))).toList) :=
    fun ty => run_clear_cells W1 _ _ ty _ Try.underlying24 zeroFixture (by intro u hu; simp [Value.cells] at hu; rcases hu with rfl | rfl | rfl | rfl <;> rfl) g _ _ _ (by omega) (fun t ht => (own_room o1.1 (by simp [Value.cells] at ht; omega)).1) (fun t ht => (own_room o1.1 (by simp [Value.cells] at ht; omega)).2)
  have hzl : (Builtin.zeroCells (.agg #[.string ⟨#[]⟩, .int .i64 0, .int .i64 0, .int .i64 0] : Value).cells (n - (i + (n - (i + 1))))).toList.length = 4 := by simp [Builtin.zeroCells, Value.cells]; omega
  have hnn : (i + (n - (i + 1))) = n - 1 := by omega
  have o2 := own_setCells (Builtin.zeroCells (.agg #[.string ⟨#[]⟩, .int .i64 0, .int .i64 0, .int .i64 0] : Value).cells (n - (i + (n - (i + 1))))).toList ((n - 1) * 4) o1.1 (by rw [hzl]; omega)
  have o3 := own_cut o2.1 (show n - 1 ≤ n by omega)
  have HE := Lib.hid (erase_cells cFixture_len L i (by omega) (Builtin.zeroCells (.agg #[.string ⟨#[]⟩, .int .i64 0, .int .i64 0, .int .i64 0] : Value).cells (n - (i + (n - (i + 1))))).toList)
  rw [hn, ← hnews] at HE
  rw [HE.out] at o3
  have O3 := Lib.hid o3
  have GX := Lib.hid (Gx.trans (Gx.trans (g := some g) (Gx.of_G ((G.refl w).drew) _) o1.2) o2.2)
  have HW := Lib.hid hW1
  have HNN := Lib.hid hnn
  have hic : i ≤ cap := by omega
  have hjc : i + 1 ≤ cap := by omega
  have hwr : IntKind.i64.wrap ((i : Int) + 1) = (i : Int) + 1 := by rw [IntKind.wrap_i64]; omega
  have hp0 : (0 : Int) ≤ (i : Int) + 1 := by omega
  have hp1 : (i : Int) + 1 ≤ (n : Int) := by omega
  have hp2 : ((i : Int) + 1).toNat = i + 1 := by omega
  have hp3 : ((i : Int) == (i : Int) + 1) = false := by simp; omega
  clear hnl hnews o1 o2 o3 hzl hnn HE hW1 ho hcp hz0 hn
  go_enter Try.func40, Try.ntmps40
  go_wp2_with fail
  go_region_law (refine step_append_room rfl (.tmp 22) (.tmp 25) 24 rfl 34 i0 4 Try.underlying24 hi0 hz1 g 0 i cap (by simp [Act.eval, Act.put]) A (n - (i + 1)) (cap - (i + 1)) news (by simp [Act.eval, Act.put]) s1.out hsrc.out s2.out (by omega) s3.out ?_; rw [← HW.out])
  go_wp2
  go_ret
  refine ⟨?_, ?_, ?_⟩
  · rw [← HNN.out]; rfl
  · have h1 := O3.out
    rw [← HNN.out] at h1 ⊢
    exact h1
  · have h1 := GX.out
    rw [← HNN.out] at h1
    exact h1
end Go.Proofs.Ytckenipmebeopaa
