/-
  Walks: TickBy, by the reference's text.
-/
import Derived.Test.YtdpmnmhblnjhiaaTick
namespace Go.Proofs.Ytdpmnmhblnjhiaa
open Go.RowKit

theorem Gx.grown2 {g : Nat} {a b c : World} {row : Option Nat} (h : Gx (some g) a b) (hg : b.grownBy c row) (hr : ∀ k, row = some k → k = g ∨ a.heap.size ≤ k) : Gx (some g) a c :=
  ⟨hg.os.trans h.os, hg.tape.trans h.tape, hg.output.trans h.output, Nat.le_trans h.size hg.size, fun i hi hn =>
    (hg.block i (Nat.lt_of_lt_of_le hi h.size) (fun e => by
      rcases hr i e.symm with k | k
      · exact hn (by rw [k])
      · omega)).trans (h.block i hi hn)⟩
theorem Gx.drew {g : Option Nat} {a b : World} (h : Gx g a b) : Gx g a b.drew := Gx.trans h (Gx.of_G (G.refl b).drew g)
theorem idAt_at {L : List SCue} {j : Nat} {x : SCue} (h : L[j]? = some x) : idAt L (j : Int) = x.Id := by unfold idAt; simp [h]

set_option maxRecDepth 20000 in
set_option maxHeartbeats 8000000 in
theorem sTickBy_any (a : Addr) (n c : Nat) (t r : Int) (p : Bool) (L : List SCue) (x : Int) (w : World) (hr : Rd w (some a) 6 cCue L) (hn : L.length = n) (hb : n ≤ 4194304) (hwf : ∀ x ∈ L, WfCue x) :
    Calls Try.prog 41 #[pV (some a) n c t r p, .int .i64 x] w (ResT w (tickR L t r p x)) := by
  obtain ⟨i0, hi, hz0, hz1, hz2⟩ := info_parts infoString
  have HI := Lib.hid (And.intro hi (And.intro hz0 (And.intro hz1 hz2)))
  clear hi hz0 hz1 hz2
  have B0 := Lib.hid (((G.refl w).alloc (.cells #[.slice (some a) n c, .int .i64 t, .int .i64 r, .bool p] 29)).alloc (.cells #[.slice none 0 0, .int .i64 0, .int .i64 0, .bool false] 29))
  have HWF := Lib.hid hwf
  have d0 : ((w.alloc (.cells #[.slice (some a) n c, .int .i64 t, .int .i64 r, .bool p] 29)).alloc (.cells #[.slice none 0 0, .int .i64 0, .int .i64 0, .bool false] 29)).cell? ⟨w.heap.size, 0, none⟩ = some (.slice (some a) n c) := ((G.refl (w.alloc (.cells #[.slice (some a) n c, .int .i64 t, .int .i64 r, .bool p] 29))).alloc (.cells #[.slice none 0 0, .int .i64 0, .int .i64 0, .bool false] 29)).cell ((World.cell?_alloc_at _ _ _ 0 rfl).trans rfl)
  have d1 : ((w.alloc (.cells #[.slice (some a) n c, .int .i64 t, .int .i64 r, .bool p] 29)).alloc (.cells #[.slice none 0 0, .int .i64 0, .int .i64 0, .bool false] 29)).cell? ⟨w.heap.size, 1, none⟩ = some (.int .i64 t) := ((G.refl (w.alloc (.cells #[.slice (some a) n c, .int .i64 t, .int .i64 r, .bool p] 29))).alloc (.cells #[.slice none 0 0, .int .i64 0, .int .i64 0, .bool false] 29)).cell ((World.cell?_alloc_at _ _ _ 1 rfl).trans rfl)
  have d2 : ((w.alloc (.cells #[.slice (some a) n c, .int .i64 t, .int .i64 r, .bool p] 29)).alloc (.cells #[.slice none 0 0, .int .i64 0, .int .i64 0, .bool false] 29)).cell? ⟨w.heap.size, 2, none⟩ = some (.int .i64 r) := ((G.refl (w.alloc (.cells #[.slice (some a) n c, .int .i64 t, .int .i64 r, .bool p] 29))).alloc (.cells #[.slice none 0 0, .int .i64 0, .int .i64 0, .bool false] 29)).cell ((World.cell?_alloc_at _ _ _ 2 rfl).trans rfl)
  have d3 : ((w.alloc (.cells #[.slice (some a) n c, .int .i64 t, .int .i64 r, .bool p] 29)).alloc (.cells #[.slice none 0 0, .int .i64 0, .int .i64 0, .bool false] 29)).cell? ⟨w.heap.size, 3, none⟩ = some (.bool p) := ((G.refl (w.alloc (.cells #[.slice (some a) n c, .int .i64 t, .int .i64 r, .bool p] 29))).alloc (.cells #[.slice none 0 0, .int .i64 0, .int .i64 0, .bool false] 29)).cell ((World.cell?_alloc_at _ _ _ 3 rfl).trans rfl)
  have KV := Lib.hid (l17Ok_any w.heap.size (some a) n c t r L ((w.alloc (.cells #[.slice (some a) n c, .int .i64 t, .int .i64 r, .bool p] 29)).alloc (.cells #[.slice none 0 0, .int .i64 0, .int .i64 0, .bool false] 29)) (hr.G B0.out) hn hb hwf d0 d1 d2)
  have KO := Lib.hid (fun (b : Nat) (W : World) (g : G w W) => l17Own_any b a n c t r p L W (hr.G g) hn hb)
  have KE := Lib.hid (fun (hv : vcus L = true) (W : World) (g : G w W) => l13End_any (some a) n c L W (hr.G g) hn hb hv)
  have KB := Lib.hid (fun (y : Int) (W : World) (g : G w W) => l13Between_any (some a) n c L t y W (hr.G g) hn hb)
  have HR := Lib.hid hr
  clear d0 d1 d2 d3
  have K1 := Lib.hid (fun W => l00In_any x 0 600000 W)
  have OB := Lib.hid (own_G (own_new (w := w) (base := w.heap.size) (n := 1) (cap := 1) (size := 4) (e := 29) (cur := #[.slice (some a) n c, .int .i64 t, .int .i64 r, .bool p]) (Nat.le_refl _) (by decide) (by decide) rfl) ((G.refl _).alloc (.cells #[.slice none 0 0, .int .i64 0, .int .i64 0, .bool false] 29)))
  have OR := Lib.hid (own_new (w := w.alloc (.cells #[.slice (some a) n c, .int .i64 t, .int .i64 r, .bool p] 29)) (base := w.heap.size) (n := 1) (cap := 1) (size := 4) (e := 29) (cur := #[.slice none 0 0, .int .i64 0, .int .i64 0, .bool false]) (by simp) (by decide) (by decide) rfl)
  rw [show (w.alloc (.cells #[.slice (some a) n c, .int .i64 t, .int .i64 r, .bool p] 29)).heap.size = w.heap.size + 1 by simp] at OR
  have Hn := Lib.hid hn
  clear hr hn hwf 
  unfold pV
  cases hv : vplB L t r
  · have H := Lib.hid (show tickR L t r p x = (noP 1, []) by unfold tickR; rw [if_pos hv])
    have HV := Lib.hid hv
    clear hv
    go_enter Try.func41, Try.ntmps41
    go_wp2_with fail
    refine (KV.out).mono ?_
    rintro e w1 ⟨rfl, g1⟩
    have G1 := Lib.hid (B0.out.trans g1)
    have B1 := Lib.hid (own_G OB.out g1)
    have R1 := Lib.hid (own_G OR.out g1)
    obtain ⟨q0, HQ0⟩ : ∃ q, Hid (w.heap.size = q) := ⟨_, rfl⟩
    obtain ⟨q1, HQ1⟩ : ∃ q, Hid (w.heap.size + 1 = q) := ⟨_, rfl⟩
    have b0 : w.heap.size ≤ q0 := by rw [← HQ0.out]; exact Nat.le_refl _
    have b1 : w.heap.size ≤ q1 := by rw [← HQ1.out]; omega
    have n01 : q0 ≠ q1 := by rw [← HQ1.out, ← HQ0.out]; omega
    rw [HQ0.out] at B1
    rw [HQ1.out] at R1
    clear g1 B0 OB OR
    rw [HV.out, HQ1.out, HQ0.out]
    dsimp only
    have hr0 := own_cellAt_mid R1.out (j := 0) rfl
    have hz0 := own_frozen_of R1.out 0
    have hr1 := own_cellAt_mid R1.out (j := 1) rfl
    have hz1 := own_frozen_of R1.out 1
    have hr2 := own_cellAt_mid R1.out (j := 2) rfl
    have hz2 := own_frozen_of R1.out 2
    have hr3 := own_cellAt_mid R1.out (j := 3) rfl
    have hz3 := own_frozen_of R1.out 3
    go_wp2
    have T0 := Lib.hid (R1.out.stored 0 (.slice none 0 0))
    have Z0 := Lib.hid T0.out.2
    have T1 := Lib.hid (T0.out.1.stored 1 (.int .i64 0))
    have Z1 := Lib.hid (Gx.trans Z0.out T1.out.2)
    have T2 := Lib.hid (T1.out.1.stored 2 (.int .i64 0))
    have Z2 := Lib.hid (Gx.trans Z1.out T2.out.2)
    have T3 := Lib.hid (T2.out.1.stored 3 (.bool false))
    have Z3 := Lib.hid (Gx.trans Z2.out T3.out.2)
    have G2 := Lib.hid (Gx.G G1.out Z3.out (by intro i hi; cases hi; exact b1))
    have k0 := own_cellAt_mid T3.out.1 (j := 0) rfl
    have k1 := own_cellAt_mid T3.out.1 (j := 1) rfl
    have k2 := own_cellAt_mid T3.out.1 (j := 2) rfl
    have k3 := own_cellAt_mid T3.out.1 (j := 3) rfl
    refine bodyPost_ret (v := .tuple #[pV none 0 0 0 0 false, .slice none 0 0, .int .i64 1]) (by simp [results, Try.results41, go_sem, k0, k1, k2, k3]) rfl (resT_no H.out G2.out)
  have HF := Lib.hid (show tickR L t r p x = if inB x 0 600000 = false then (noP 2, []) else if p = false then (⟨L, t, r, false, 0⟩, []) else if endL L ≤ t + x * r / 1000 then (⟨L, endL L, r, false, 0⟩, idsB L t 7200001) else (⟨L, t + x * r / 1000, r, true, 0⟩, idsB L t (t + x * r / 1000)) by unfold tickR; rw [if_neg (by rw [hv]; simp)])
  have HV := Lib.hid hv
  obtain ⟨hvc, t0, t1, r0, r1, hend⟩ := vplB_bd hv
  have HVC := Lib.hid hvc
  have HE := Lib.hid (show showEnd L = (endL L, 0) by unfold showEnd; rw [hvc]; simp)
  clear hv hvc
  cases ht : inB x 0 600000
  · have H := Lib.hid (show tickR L t r p x = (noP 2, []) by rw [HF.out, if_pos ht])
    rw [ht] at K1
    clear ht HF
    go_enter Try.func41, Try.ntmps41
    go_wp2_with fail
    refine (KV.out).mono ?_
    rintro e w1 ⟨rfl, g1⟩
    have G1 := Lib.hid (B0.out.trans g1)
    have B1 := Lib.hid (own_G OB.out g1)
    have R1 := Lib.hid (own_G OR.out g1)
    obtain ⟨q0, HQ0⟩ : ∃ q, Hid (w.heap.size = q) := ⟨_, rfl⟩
    obtain ⟨q1, HQ1⟩ : ∃ q, Hid (w.heap.size + 1 = q) := ⟨_, rfl⟩
    have b0 : w.heap.size ≤ q0 := by rw [← HQ0.out]; exact Nat.le_refl _
    have b1 : w.heap.size ≤ q1 := by rw [← HQ1.out]; omega
    have n01 : q0 ≠ q1 := by rw [← HQ1.out, ← HQ0.out]; omega
    rw [HQ0.out] at B1
    rw [HQ1.out] at R1
    clear g1 B0 OB OR
    rw [HV.out, HQ1.out, HQ0.out]
    dsimp only
    have hr0 := own_cellAt_mid R1.out (j := 0) rfl
    have hz0 := own_frozen_of R1.out 0
    have hr1 := own_cellAt_mid R1.out (j := 1) rfl
    have hz1 := own_frozen_of R1.out 1
    have hr2 := own_cellAt_mid R1.out (j := 2) rfl
    have hz2 := own_frozen_of R1.out 2
    have hr3 := own_cellAt_mid R1.out (j := 3) rfl
    have hz3 := own_frozen_of R1.out 3
    go_wp2_with (go_at_call 68; (with_reducible refine (K1.out _).mono ?_); rintro e w2 ⟨rfl, rfl⟩; dsimp only)
    have T0 := Lib.hid (R1.out.stored 0 (.slice none 0 0))
    have Z0 := Lib.hid T0.out.2
    have T1 := Lib.hid (T0.out.1.stored 1 (.int .i64 0))
    have Z1 := Lib.hid (Gx.trans Z0.out T1.out.2)
    have T2 := Lib.hid (T1.out.1.stored 2 (.int .i64 0))
    have Z2 := Lib.hid (Gx.trans Z1.out T2.out.2)
    have T3 := Lib.hid (T2.out.1.stored 3 (.bool false))
    have Z3 := Lib.hid (Gx.trans Z2.out T3.out.2)
    have G2 := Lib.hid (Gx.G G1.out Z3.out (by intro i hi; cases hi; exact b1))
    have k0 := own_cellAt_mid T3.out.1 (j := 0) rfl
    have k1 := own_cellAt_mid T3.out.1 (j := 1) rfl
    have k2 := own_cellAt_mid T3.out.1 (j := 2) rfl
    have k3 := own_cellAt_mid T3.out.1 (j := 3) rfl
    refine bodyPost_ret (v := .tuple #[pV none 0 0 0 0 false, .slice none 0 0, .int .i64 2]) (by simp [results, Try.results41, go_sem, k0, k1, k2, k3]) rfl (resT_no H.out G2.out)
  obtain ⟨x0, x1⟩ := inB_iff.1 ht
  obtain ⟨y0, y1, z0, z1⟩ := tick_bd r0 r1 x0 x1
  replace HF := Lib.hid (show tickR L t r p x = if p = false then (⟨L, t, r, false, 0⟩, []) else if endL L ≤ t + x * r / 1000 then (⟨L, endL L, r, false, 0⟩, idsB L t 7200001) else (⟨L, t + x * r / 1000, r, true, 0⟩, idsB L t (t + x * r / 1000)) by rw [HF.out, if_neg (by rw [ht]; simp)])
  rw [ht] at K1
  clear ht
  obtain ⟨z, HZ⟩ : ∃ z, Hid (endL L = z) := ⟨_, rfl⟩
  cases p
  · have H := Lib.hid (show tickR L t r false x = (⟨L, t, r, false, 0⟩, []) by rw [HF.out, if_pos rfl])
    clear HF HZ
    go_enter Try.func41, Try.ntmps41
    go_wp2_with fail
    refine (KV.out).mono ?_
    rintro e w1 ⟨rfl, g1⟩
    have G1 := Lib.hid (B0.out.trans g1)
    have B1 := Lib.hid (own_G OB.out g1)
    have R1 := Lib.hid (own_G OR.out g1)
    obtain ⟨q0, HQ0⟩ : ∃ q, Hid (w.heap.size = q) := ⟨_, rfl⟩
    obtain ⟨q1, HQ1⟩ : ∃ q, Hid (w.heap.size + 1 = q) := ⟨_, rfl⟩
    have b0 : w.heap.size ≤ q0 := by rw [← HQ0.out]; exact Nat.le_refl _
    have b1 : w.heap.size ≤ q1 := by rw [← HQ1.out]; omega
    have n01 : q0 ≠ q1 := by rw [← HQ1.out, ← HQ0.out]; omega
    rw [HQ0.out] at B1
    rw [HQ1.out] at R1
    clear g1 B0 OB OR
    rw [HV.out, HQ1.out, HQ0.out]
    dsimp only
    have hc0 := own_cellAt_mid B1.out (j := 0) rfl
    have hy0 := own_frozen_of B1.out 0
    have hc1 := own_cellAt_mid B1.out (j := 1) rfl
    have hy1 := own_frozen_of B1.out 1
    have hc2 := own_cellAt_mid B1.out (j := 2) rfl
    have hy2 := own_frozen_of B1.out 2
    have hc3 := own_cellAt_mid B1.out (j := 3) rfl
    have hy3 := own_frozen_of B1.out 3
    go_wp2_with (go_at_call 68; (with_reducible refine (K1.out _).mono ?_); rintro e w2 ⟨rfl, rfl⟩; dsimp only)
    refine (KO.out q0 _ G1.out hc0 hc1 hc2 hc3).mono ?_
    rintro e w2 ⟨A', c', rfl, g2, ho⟩
    have HO := Lib.hid (ho.mono G1.out.size)
    have hlt := ho.lt
    have l0 := (B1.out.lt q0 rfl).2
    have l1 := (R1.out.lt q1 rfl).2
    have s2 := g2.size
    have G2 := Lib.hid (G1.out.trans g2)
    have gx := ((G.refl w2).alloc (.cells #[.slice A' n c', .int .i64 t, .int .i64 r, .bool false] 29)).alloc (.cells #[] 9)
    have B3 := Lib.hid (own_G (own_G B1.out g2) gx)
    have R3 := Lib.hid (own_G (own_G R1.out g2) gx)
    have HO3 := Lib.hid (own_G HO.out gx)
    have m1 : (Value.slice A' n c').ownBlock = none ∨ (Value.slice A' n c').ownBlock ≠ some q1 := .inr (fun e => by have := (hlt q1 e).1; omega)
    have G3 := Lib.hid (G2.out.trans gx)
    obtain ⟨q2, HQ2⟩ : ∃ q, Hid (w2.heap.size = q) := ⟨_, rfl⟩
    obtain ⟨qe, HQE⟩ : ∃ q, Hid (w2.heap.size + 1 = q) := ⟨_, rfl⟩
    have OX := Lib.hid (own_G (own_new (w := w2) (base := w2.heap.size) (n := 1) (cap := 1) (size := 4) (e := 29) (cur := #[.slice A' n c', .int .i64 t, .int .i64 r, .bool false]) (Nat.le_refl _) (by decide) (by decide) rfl) ((G.refl _).alloc (.cells #[] 9)))
    have OE := Lib.hid (World.ownsRow_lit (e := 9) (base := w2.heap.size + 1) (size := 1) (w2.alloc (.cells #[.slice A' n c', .int .i64 t, .int .i64 r, .bool false] 29)) #[] 0 (by simp) (by unfold maxLen; omega) rfl)
    rw [show (w2.alloc (.cells #[.slice A' n c', .int .i64 t, .int .i64 r, .bool false] 29)).heap.size = w2.heap.size + 1 by simp] at OE
    have m2 : (Value.slice A' n c').ownBlock = none ∨ (Value.slice A' n c').ownBlock ≠ some q2 := .inr (fun e => by have := (ho.lt q2 e).2; have := HQ2.out; omega)
    have me : (Value.slice A' n c').ownBlock = none ∨ (Value.slice A' n c').ownBlock ≠ some qe := .inr (fun e => by have := (ho.lt qe e).2; have := HQE.out; omega)
    have n12 : q1 ≠ q2 := by rw [← HQ2.out]; omega
    have n02 : q0 ≠ q2 := by rw [← HQ2.out]; omega
    have n1e : q1 ≠ qe := by rw [← HQE.out]; omega
    have n0e : q0 ≠ qe := by rw [← HQE.out]; omega
    have n2e : q2 ≠ qe := by rw [← HQE.out, ← HQ2.out]; omega
    have b2 : w.heap.size ≤ q2 := by have := G2.out.size; have := HQ2.out; omega
    have be : w.heap.size ≤ qe := by have := G2.out.size; have := HQE.out; omega
    rw [HQ2.out] at OX
    rw [HQE.out] at OE
    clear hlt ho g2 gx B1 R1 s2 hc0 hy0 hc1 hy1 hc2 hy2 hc3 hy3
    have hr0 := own_cellAt_mid R3.out (j := 0) rfl
    have hz0 := own_frozen_of R3.out 0
    have hr1 := own_cellAt_mid R3.out (j := 1) rfl
    have hz1 := own_frozen_of R3.out 1
    have hr2 := own_cellAt_mid R3.out (j := 2) rfl
    have hz2 := own_frozen_of R3.out 2
    have hr3 := own_cellAt_mid R3.out (j := 3) rfl
    have hz3 := own_frozen_of R3.out 3
    have hs0 := own_cellAt_mid OX.out (j := 0) rfl
    have ht0 := own_frozen_of OX.out 0
    have hs1 := own_cellAt_mid OX.out (j := 1) rfl
    have ht1 := own_frozen_of OX.out 1
    have hs2 := own_cellAt_mid OX.out (j := 2) rfl
    have ht2 := own_frozen_of OX.out 2
    have hs3 := own_cellAt_mid OX.out (j := 3) rfl
    have ht3 := own_frozen_of OX.out 3
    have hc3 := own_cellAt_mid B3.out (j := 3) rfl
    rw [← HQ2.out] at hs0 hs1 hs2 hs3
    dsimp only
    go_wp2
    have T0 := Lib.hid (R3.out.stored 0 (.slice A' n c'))
    have Z0 := Lib.hid T0.out.2
    have T1 := Lib.hid (T0.out.1.stored 1 (.int .i64 t))
    have Z1 := Lib.hid (Gx.trans Z0.out T1.out.2)
    have T2 := Lib.hid (T1.out.1.stored 2 (.int .i64 r))
    have Z2 := Lib.hid (Gx.trans Z1.out T2.out.2)
    have T3 := Lib.hid (T2.out.1.stored 3 (.bool false))
    have Z3 := Lib.hid (Gx.trans Z2.out T3.out.2)
    have G4 := Lib.hid (Gx.G G3.out Z3.out (by intro i hi; cases hi; exact b1))
    have O4 := Lib.hid (own_Gx HO3.out Z3.out m1)
    have OE4 := Lib.hid (own_Gx OE.out Z3.out (.inr (by simp [Value.ownBlock]; omega)))
    have k0 := own_cellAt_mid T3.out.1 (j := 0) rfl
    have k1 := own_cellAt_mid T3.out.1 (j := 1) rfl
    have k2 := own_cellAt_mid T3.out.1 (j := 2) rfl
    have k3 := own_cellAt_mid T3.out.1 (j := 3) rfl
    rw [HQE.out]
    refine bodyPost_ret (v := .tuple #[pV A' n c' t r false, .slice (some ⟨qe, 0, none⟩) 0 0, .int .i64 0]) (by simp [results, Try.results41, go_sem, k0, k1, k2, k3]) rfl ?_
    rw [H.out]
    have e := Hn.out
    subst e
    exact ⟨A', c', some ⟨qe, 0, none⟩, 0, rfl, G4.out, O4.out, OE4.out.mono be, fun a b ha hb => by cases hb; exact fun e => (me.elim (fun h => by rw [ha] at h; simp [Value.ownBlock] at h) (fun h => h (by rw [ha]; simp [Value.ownBlock, e])))⟩
  replace HF := Lib.hid (show tickR L t r true x = if endL L ≤ t + x * r / 1000 then (⟨L, endL L, r, false, 0⟩, idsB L t 7200001) else (⟨L, t + x * r / 1000, r, true, 0⟩, idsB L t (t + x * r / 1000)) by rw [HF.out, if_neg (by simp)])
  obtain ⟨u, HU⟩ : ∃ u, Hid (t + x * r / 1000 = u) := ⟨_, rfl⟩
  rw [HZ.out] at t1 hend
  by_cases hov : z ≤ t + x * r / 1000
  · have H := Lib.hid (show tickR L t r true x = (⟨L, z, r, false, 0⟩, idsB L t 7200001) by rw [HF.out, HZ.out, if_pos hov])
    obtain ⟨M, HM⟩ : ∃ M, Hid (btwN L t (z + 1) n = M) := ⟨_, rfl⟩
    have KBx := Lib.hid (KB.out (z + 1))
    rw [HM.out] at KBx
    have HIDS := Lib.hid (show M.map (idAt L) = idsB L t 7200001 by rw [← HM.out, ← ids_btw, List.take_of_length_le (by rw [Hn.out]; exact Nat.le_refl _), ← HZ.out, idsB_end HVC.out])
    have hM : M.length ≤ 32 := by have h1 := vcus_len HVC.out; have h2 := btwN_len (L := L) (a := t) (b := (z + 1)) n; rw [HM.out] at h2; rw [Hn.out] at h1; omega
    clear HF KB
    go_enter Try.func41, Try.ntmps41
    go_wp2_with fail
    refine (KV.out).mono ?_
    rintro e w1 ⟨rfl, g1⟩
    have G1 := Lib.hid (B0.out.trans g1)
    have B1 := Lib.hid (own_G OB.out g1)
    have R1 := Lib.hid (own_G OR.out g1)
    obtain ⟨q0, HQ0⟩ : ∃ q, Hid (w.heap.size = q) := ⟨_, rfl⟩
    obtain ⟨q1, HQ1⟩ : ∃ q, Hid (w.heap.size + 1 = q) := ⟨_, rfl⟩
    have b0 : w.heap.size ≤ q0 := by rw [← HQ0.out]; exact Nat.le_refl _
    have b1 : w.heap.size ≤ q1 := by rw [← HQ1.out]; omega
    have n01 : q0 ≠ q1 := by rw [← HQ1.out, ← HQ0.out]; omega
    rw [HQ0.out] at B1
    rw [HQ1.out] at R1
    clear g1 B0 OB OR
    rw [HV.out, HQ1.out, HQ0.out]
    dsimp only
    have hc0 := own_cellAt_mid B1.out (j := 0) rfl
    have hy0 := own_frozen_of B1.out 0
    have hc1 := own_cellAt_mid B1.out (j := 1) rfl
    have hy1 := own_frozen_of B1.out 1
    have hc2 := own_cellAt_mid B1.out (j := 2) rfl
    have hy2 := own_frozen_of B1.out 2
    have hc3 := own_cellAt_mid B1.out (j := 3) rfl
    have hy3 := own_frozen_of B1.out 3
    go_wp2_with (go_at_call 68; (with_reducible refine (K1.out _).mono ?_); rintro e w2 ⟨rfl, rfl⟩; dsimp only)
    refine (KO.out q0 _ G1.out hc0 hc1 hc2 hc3).mono ?_
    rintro e w2 ⟨A', c', rfl, g2, ho⟩
    have HO := Lib.hid (ho.mono G1.out.size)
    have hlt := ho.lt
    have l0 := (B1.out.lt q0 rfl).2
    have l1 := (R1.out.lt q1 rfl).2
    have s2 := g2.size
    have G2 := Lib.hid (G1.out.trans g2)
    have gx := ((G.refl w2).alloc (.cells #[.slice A' n c', .int .i64 t, .int .i64 r, .bool true] 29)).alloc (.cells #[] 9)
    have B3 := Lib.hid (own_G (own_G B1.out g2) gx)
    have R3 := Lib.hid (own_G (own_G R1.out g2) gx)
    have HO3 := Lib.hid (own_G HO.out gx)
    have m1 : (Value.slice A' n c').ownBlock = none ∨ (Value.slice A' n c').ownBlock ≠ some q1 := .inr (fun e => by have := (hlt q1 e).1; omega)
    have G3 := Lib.hid (G2.out.trans gx)
    obtain ⟨q2, HQ2⟩ : ∃ q, Hid (w2.heap.size = q) := ⟨_, rfl⟩
    obtain ⟨qe, HQE⟩ : ∃ q, Hid (w2.heap.size + 1 = q) := ⟨_, rfl⟩
    have OX := Lib.hid (own_G (own_new (w := w2) (base := w2.heap.size) (n := 1) (cap := 1) (size := 4) (e := 29) (cur := #[.slice A' n c', .int .i64 t, .int .i64 r, .bool true]) (Nat.le_refl _) (by decide) (by decide) rfl) ((G.refl _).alloc (.cells #[] 9)))
    have OE := Lib.hid (World.ownsRow_lit (e := 9) (base := w2.heap.size + 1) (size := 1) (w2.alloc (.cells #[.slice A' n c', .int .i64 t, .int .i64 r, .bool true] 29)) #[] 0 (by simp) (by unfold maxLen; omega) rfl)
    rw [show (w2.alloc (.cells #[.slice A' n c', .int .i64 t, .int .i64 r, .bool true] 29)).heap.size = w2.heap.size + 1 by simp] at OE
    have m2 : (Value.slice A' n c').ownBlock = none ∨ (Value.slice A' n c').ownBlock ≠ some q2 := .inr (fun e => by have := (ho.lt q2 e).2; have := HQ2.out; omega)
    have me : (Value.slice A' n c').ownBlock = none ∨ (Value.slice A' n c').ownBlock ≠ some qe := .inr (fun e => by have := (ho.lt qe e).2; have := HQE.out; omega)
    have n12 : q1 ≠ q2 := by rw [← HQ2.out]; omega
    have n02 : q0 ≠ q2 := by rw [← HQ2.out]; omega
    have n1e : q1 ≠ qe := by rw [← HQE.out]; omega
    have n0e : q0 ≠ qe := by rw [← HQE.out]; omega
    have n2e : q2 ≠ qe := by rw [← HQE.out, ← HQ2.out]; omega
    have b2 : w.heap.size ≤ q2 := by have := G2.out.size; have := HQ2.out; omega
    have be : w.heap.size ≤ qe := by have := G2.out.size; have := HQE.out; omega
    rw [HQ2.out] at OX
    rw [HQE.out] at OE
    clear hlt ho g2 gx B1 R1 s2 hc0 hy0 hc1 hy1 hc2 hy2 hc3 hy3
    have hc3 := own_cellAt_mid B3.out (j := 3) rfl
    have hc0 := own_cellAt_mid B3.out (j := 0) rfl
    dsimp only
    go_wp2_with fail
    refine (KE.out HVC.out _ G3.out).mono ?_
    rintro e w3 ⟨rfl, g3⟩
    have B4 := Lib.hid (own_G B3.out g3)
    have R4 := Lib.hid (own_G R3.out g3)
    have O4 := Lib.hid (own_G HO3.out g3)
    have X4 := Lib.hid (own_G OX.out g3)
    have E4 := Lib.hid (own_G OE.out g3)
    have G4 := Lib.hid (G3.out.trans g3)
    clear g3 B3 R3 HO3 OX OE G3 hc0 hc3 HO
    have hc0 := own_cellAt_mid B4.out (j := 0) rfl
    have hy0 := own_frozen_of B4.out 0
    have hc1 := own_cellAt_mid B4.out (j := 1) rfl
    have hy1 := own_frozen_of B4.out 1
    have hc2 := own_cellAt_mid B4.out (j := 2) rfl
    have hy2 := own_frozen_of B4.out 2
    have hc3 := own_cellAt_mid B4.out (j := 3) rfl
    have hy3 := own_frozen_of B4.out 3
    have hs0 := own_cellAt_mid X4.out (j := 0) rfl
    have ht0 := own_frozen_of X4.out 0
    have hs1 := own_cellAt_mid X4.out (j := 1) rfl
    have ht1 := own_frozen_of X4.out 1
    have hs2 := own_cellAt_mid X4.out (j := 2) rfl
    have ht2 := own_frozen_of X4.out 2
    have hs3 := own_cellAt_mid X4.out (j := 3) rfl
    have ht3 := own_frozen_of X4.out 3
    rw [HZ.out, HQE.out, HQ2.out]
    dsimp only
    go_wp2_with fail
    rw [HU.out]
    have SX := Lib.hid (X4.out.stored 3 (.bool false))
    have YX := Lib.hid SX.out.2
    have G4x := Lib.hid (Gx.G G4.out YX.out (by intro i hi; cases hi; exact b2))
    have B4x := Lib.hid (own_Gx B4.out YX.out (.inr (by simp [Value.ownBlock]; omega)))
    have R4x := Lib.hid (own_Gx R4.out YX.out (.inr (by simp [Value.ownBlock]; omega)))
    have O4x := Lib.hid (own_Gx O4.out YX.out m2)
    have E4x := Lib.hid (own_Gx E4.out YX.out (.inr (by simp [Value.ownBlock]; omega)))
    have X4x := Lib.hid SX.out.1
    refine (KBx.out _ G4x.out).mono ?_
    rintro e w5 ⟨vl, rfl, hl, g5⟩
    obtain ⟨Al, cl, rfl⟩ := own_val hl
    have B5 := Lib.hid (own_G B4x.out g5)
    have R5 := Lib.hid (own_G R4x.out g5)
    have O5 := Lib.hid (own_G O4x.out g5)
    have X5 := Lib.hid (own_G X4x.out g5)
    have E5 := Lib.hid (own_G E4x.out g5)
    have G5 := Lib.hid (G4x.out.trans g5)
    have OL := Lib.hid hl
    have ml : (Value.slice Al M.length cl).ownBlock = none ∨ (Value.slice Al M.length cl).ownBlock ≠ some qe := .inr (fun e => by have h1 := (hl.lt qe e).1; have h2 := (E4x.out.lt qe rfl).2; omega)
    have l5 := (R5.out.lt q1 rfl).2
    have le5 := (E5.out.lt qe rfl).2
    clear hl g5 B4 R4 O4 X4 E4 G4 B4x R4x O4x X4x E4x G4x KBx hc0 hy0 hc1 hy1 hc2 hy2 hc3 hy3 hs0 ht0 hs1 ht1 hs2 ht2 hs3 ht3 SX YX
    dsimp only
    go_wp2
    go_loopw [8, 13] (fun v i wr => ∃ (k : Nat), k ≤ M.length ∧ i = .int .i64 k ∧ Hid (wr.ownsRow qe 9 1 v k (((M.take k).map (idAt L)).flatMap sv)) ∧ Hid (∀ g, v.ownBlock = some g → g = qe ∨ w5.heap.size ≤ g) ∧ Hid (Gx (some qe) w5 wr)) (fun _ i _ => M.length - (intOf i).toNat)
    case atStart => exact ⟨0, Nat.zero_le _, rfl, E5, Lib.hid (fun g e => .inl (by simpa [Value.ownBlock] using e.symm)), Lib.hid (Gx.of_G (G.refl _) _)⟩
    case round =>
      obtain ⟨k, hk, rfl, HO1, HV1, GX⟩ := hrel
      have hsz : w5.heap.size ≤ wr.heap.size := World.grownBy.size GX.out
      by_cases hlt : k < M.length
      · obtain ⟨bl, ol, i, rfl, hi, hcl⟩ := (rd_ints OL.out).int (k := k) hlt
        obtain ⟨j, rfl, hj⟩ := btwN_in (L := L) (a := t) (b := (z + 1)) n (by rw [HM.out]; exact List.mem_of_getElem? hi)
        obtain ⟨bc, oc, x', ha, hx, hd0, -⟩ := (HR.out.G G5.out).Cue (k := j) hj
        cases ha
        have NE0 := Lib.hid (show some q0 ≠ some qe by simpa using n0e)
        have NEl := Lib.hid (show some bl ≠ some qe by
          rcases ml with h | h
          · simp [Value.ownBlock] at h
          · simpa [Value.ownBlock] using h)
        have NEc := Lib.hid (show some bc ≠ some qe by
          obtain ⟨b', o', y', hb', -, hd', -⟩ := HR.out.Cue (k := j) hj
          cases hb'
          have h1 := block_lt_of_cell hd'
          simp only at h1
          intro e
          cases e
          omega)
        have HC0 := Lib.hid (own_cellAt_mid B5.out (j := 0) rfl)
        have HCl := Lib.hid hcl
        have HCc := Lib.hid hd0
        have hq := Gx.cell GX.out HC0.out NE0.out
        have hq2 := Gx.cell GX.out hcl NEl.out
        have hq3 := Gx.cell GX.out hd0 NEc.out
        have HS := Lib.hid (show ((M.take k).map (idAt L)).flatMap sv ++ [.string x'.Id] = ((M.take (k + 1)).map (idAt L)).flatMap sv by rw [take_snoc hi, List.map_append, List.flatMap_append]; simp [sv, idAt_at hx])
        have hlt2 : (k : Int) < (M.length : Int) := by omega
        have hk0 : 0 ≤ (k : Int) := by omega
        have hj2 : (j : Int) < (n : Int) := by have := Hn.out; omega
        have hj0 : 0 ≤ (j : Int) := by omega
        clear hcl hd0 hi hx
        go_wp2
        go_region_held3 (fun w' => w'.cell? ⟨q0, 0, none⟩ = some (.slice (some ⟨bc, oc, none⟩) n c) ∧ w'.cell? ⟨bl, ol + k, none⟩ = some (.int .i64 j) ∧ w'.cell? ⟨bc, oc + j * 6, none⟩ = some (.string x'.Id)) (first | go_keep | exact ⟨Gx.cell G9.out HC0.out NE0.out, Gx.cell G9.out HCl.out NEl.out, Gx.cell G9.out HCc.out NEc.out⟩) (first | (refine step_append_lies _ (by rfl) (.tmp 59) (.tmp 69) 47 (by rfl) qe 9 i0 (.string ⟨#[]⟩) 1 16 Try.underlying47 HI.out.1 HI.out.2.1 HI.out.2.2.1 HI.out.2.2.2 rfl (by decide) _ k _ (by rfl) (World.ownsRow.alloc (World.ownsRow.drew HO1.out) _) ⟨wr.heap.size, 0, none⟩ 1 1 [.string x'.Id] (by rfl) rfl (block_news _ [.string x'.Id] _) (str_oneCell x'.Id) (by decide) (by unfold maxLen; omega) (by omega) (by simp; omega) (wr.heap.size + 1) (by simp) ?_; intro g cap w1 hown' hgrow hlies _; have HO2 := Lib.hid hown'; have G9 := Lib.hid (Gx.grown2 (GX.out.drew.alloc _) hgrow HV1.out); have HV2 := Lib.hid (show ∀ y, (Value.slice (some ⟨g, 0, none⟩) (k + 1) cap).ownBlock = some y → y = qe ∨ w5.heap.size ≤ y from fun y hy => by obtain rfl : g = y := (by simpa [Value.ownBlock] using hy); rcases hlies with h | h; exact HV1.out _ h; exact .inr (by omega)); clear hown' hgrow hlies))
        go_wp2
        go_roundw
        case rel => exact ⟨k + 1, by omega, by go_num, HS.out ▸ HO2, HV2, G9⟩
        case measure => simp [intOf]; omega
      · have hkm : k = M.length := by omega
        have e1 : (M.take k).map (idAt L) = idsB L t 7200001 := by rw [List.take_of_length_le (by omega)]; exact HIDS.out
        have e2 : k = (idsB L t 7200001).length := by rw [← HIDS.out, List.length_map]; exact hkm
        rw [e1] at HO1
        have E2 := Lib.hid e2
        clear e1 e2 hkm
        obtain ⟨A3, c3, rfl⟩ := own_val HO1.out
        have R6 := Lib.hid (own_Gx R5.out GX.out (.inr (by simp [Value.ownBlock]; omega)))
        have X6 := Lib.hid (own_Gx X5.out GX.out (.inr (by simp [Value.ownBlock]; omega)))
        have O6 := Lib.hid (own_Gx O5.out GX.out me)
        have G6 := Lib.hid (Gx.G G5.out GX.out (by intro i hi; cases hi; exact be))
        have D3 := Lib.hid (show ∀ a b, A' = some a → A3 = some b → a.block ≠ b.block from fun a b ha hb => by
          have h1 := HV1.out b.block (by rw [hb]; rfl)
          have h2 := (O5.out.lt a.block (by rw [ha]; rfl)).2
          intro e
          rcases h1 with h1 | h1
          · rcases me with h | h
            · rw [ha] at h; simp [Value.ownBlock] at h
            · exact h (by rw [ha, ← h1, ← e]; rfl)
          · omega)
        have m3 : ∀ q, q < w5.heap.size → q ≠ qe → (Value.slice A3 k c3).ownBlock = none ∨ (Value.slice A3 k c3).ownBlock ≠ some q := fun q h1 h2 => .inr (fun e => by rcases HV1.out q e with h | h <;> omega)
        have m31 := Lib.hid (m3 q1 (R5.out.lt q1 rfl).2 n1e)
        have m32 := Lib.hid (m3 q2 (X5.out.lt q2 rfl).2 n2e)
        clear m3
        have hs0 := own_cellAt_mid X6.out (j := 0) rfl
        have ht0 := own_frozen_of X6.out 0
        have hs1 := own_cellAt_mid X6.out (j := 1) rfl
        have ht1 := own_frozen_of X6.out 1
        have hs2 := own_cellAt_mid X6.out (j := 2) rfl
        have ht2 := own_frozen_of X6.out 2
        have hs3 := own_cellAt_mid X6.out (j := 3) rfl
        have ht3 := own_frozen_of X6.out 3
        have hr0 := own_cellAt_mid R6.out (j := 0) rfl
        have hz0 := own_frozen_of R6.out 0
        have hr1 := own_cellAt_mid R6.out (j := 1) rfl
        have hz1 := own_frozen_of R6.out 1
        have hr2 := own_cellAt_mid R6.out (j := 2) rfl
        have hz2 := own_frozen_of R6.out 2
        have hr3 := own_cellAt_mid R6.out (j := 3) rfl
        have hz3 := own_frozen_of R6.out 3
        go_wp2
        have S1 := Lib.hid (X6.out.stored 1 (.int .i64 z))
        have V1 := Lib.hid S1.out.2
        have R7 := Lib.hid (own_Gx R6.out V1.out (.inr (by simp [Value.ownBlock]; omega)))
        have T0 := Lib.hid (R7.out.stored 0 (.slice A' n c'))
        have Z0 := Lib.hid T0.out.2
        have T1 := Lib.hid (T0.out.1.stored 1 (.int .i64 z))
        have Z1 := Lib.hid (Gx.trans Z0.out T1.out.2)
        have T2 := Lib.hid (T1.out.1.stored 2 (.int .i64 r))
        have Z2 := Lib.hid (Gx.trans Z1.out T2.out.2)
        have T3 := Lib.hid (T2.out.1.stored 3 (.bool false))
        have Z3 := Lib.hid (Gx.trans Z2.out T3.out.2)
        have G7 := Lib.hid (Gx.G (Gx.G G6.out V1.out (by intro i hi; cases hi; exact b2)) Z3.out (by intro i hi; cases hi; exact b1))
        have O7 := Lib.hid (own_Gx (own_Gx O6.out V1.out m2) Z3.out m1)
        have O8 := Lib.hid (own_Gx (own_Gx HO1.out V1.out m32.out) Z3.out m31.out)
        have k0 := own_cellAt_mid T3.out.1 (j := 0) rfl
        have k1 := own_cellAt_mid T3.out.1 (j := 1) rfl
        have k2 := own_cellAt_mid T3.out.1 (j := 2) rfl
        have k3 := own_cellAt_mid T3.out.1 (j := 3) rfl
        refine bodyPost_ret (v := .tuple #[pV A' n c' z r false, .slice A3 k c3, .int .i64 0]) (by simp [results, Try.results41, go_sem, k0, k1, k2, k3]) rfl ?_
        rw [H.out]
        have e := Hn.out
        subst e
        have e := E2.out
        subst e
        exact ⟨A', c', A3, c3, rfl, G7.out, O7.out, O8.out.mono be, D3.out⟩
  have H := Lib.hid (show tickR L t r true x = (⟨L, u, r, true, 0⟩, idsB L t u) by rw [HF.out, HZ.out, if_neg hov, HU.out])
  replace hov : t + x * r / 1000 < z := by omega
  obtain ⟨M, HM⟩ : ∃ M, Hid (btwN L t u n = M) := ⟨_, rfl⟩
  have KBx := Lib.hid (KB.out u)
  rw [HM.out] at KBx
  have HIDS := Lib.hid (show M.map (idAt L) = idsB L t u by rw [← HM.out, ← ids_btw, List.take_of_length_le (by rw [Hn.out]; exact Nat.le_refl _)])
  have hM : M.length ≤ 32 := by have h1 := vcus_len HVC.out; have h2 := btwN_len (L := L) (a := t) (b := u) n; rw [HM.out] at h2; rw [Hn.out] at h1; omega
  clear HF KB
  go_enter Try.func41, Try.ntmps41
  go_wp2_with fail
  refine (KV.out).mono ?_
  rintro e w1 ⟨rfl, g1⟩
  have G1 := Lib.hid (B0.out.trans g1)
  have B1 := Lib.hid (own_G OB.out g1)
  have R1 := Lib.hid (own_G OR.out g1)
  obtain ⟨q0, HQ0⟩ : ∃ q, Hid (w.heap.size = q) := ⟨_, rfl⟩
  obtain ⟨q1, HQ1⟩ : ∃ q, Hid (w.heap.size + 1 = q) := ⟨_, rfl⟩
  have b0 : w.heap.size ≤ q0 := by rw [← HQ0.out]; exact Nat.le_refl _
  have b1 : w.heap.size ≤ q1 := by rw [← HQ1.out]; omega
  have n01 : q0 ≠ q1 := by rw [← HQ1.out, ← HQ0.out]; omega
  rw [HQ0.out] at B1
  rw [HQ1.out] at R1
  clear g1 B0 OB OR
  rw [HV.out, HQ1.out, HQ0.out]
  dsimp only
  have hc0 := own_cellAt_mid B1.out (j := 0) rfl
  have hy0 := own_frozen_of B1.out 0
  have hc1 := own_cellAt_mid B1.out (j := 1) rfl
  have hy1 := own_frozen_of B1.out 1
  have hc2 := own_cellAt_mid B1.out (j := 2) rfl
  have hy2 := own_frozen_of B1.out 2
  have hc3 := own_cellAt_mid B1.out (j := 3) rfl
  have hy3 := own_frozen_of B1.out 3
  go_wp2_with (go_at_call 68; (with_reducible refine (K1.out _).mono ?_); rintro e w2 ⟨rfl, rfl⟩; dsimp only)
  refine (KO.out q0 _ G1.out hc0 hc1 hc2 hc3).mono ?_
  rintro e w2 ⟨A', c', rfl, g2, ho⟩
  have HO := Lib.hid (ho.mono G1.out.size)
  have hlt := ho.lt
  have l0 := (B1.out.lt q0 rfl).2
  have l1 := (R1.out.lt q1 rfl).2
  have s2 := g2.size
  have G2 := Lib.hid (G1.out.trans g2)
  have gx := ((G.refl w2).alloc (.cells #[.slice A' n c', .int .i64 t, .int .i64 r, .bool true] 29)).alloc (.cells #[] 9)
  have B3 := Lib.hid (own_G (own_G B1.out g2) gx)
  have R3 := Lib.hid (own_G (own_G R1.out g2) gx)
  have HO3 := Lib.hid (own_G HO.out gx)
  have m1 : (Value.slice A' n c').ownBlock = none ∨ (Value.slice A' n c').ownBlock ≠ some q1 := .inr (fun e => by have := (hlt q1 e).1; omega)
  have G3 := Lib.hid (G2.out.trans gx)
  obtain ⟨q2, HQ2⟩ : ∃ q, Hid (w2.heap.size = q) := ⟨_, rfl⟩
  obtain ⟨qe, HQE⟩ : ∃ q, Hid (w2.heap.size + 1 = q) := ⟨_, rfl⟩
  have OX := Lib.hid (own_G (own_new (w := w2) (base := w2.heap.size) (n := 1) (cap := 1) (size := 4) (e := 29) (cur := #[.slice A' n c', .int .i64 t, .int .i64 r, .bool true]) (Nat.le_refl _) (by decide) (by decide) rfl) ((G.refl _).alloc (.cells #[] 9)))
  have OE := Lib.hid (World.ownsRow_lit (e := 9) (base := w2.heap.size + 1) (size := 1) (w2.alloc (.cells #[.slice A' n c', .int .i64 t, .int .i64 r, .bool true] 29)) #[] 0 (by simp) (by unfold maxLen; omega) rfl)
  rw [show (w2.alloc (.cells #[.slice A' n c', .int .i64 t, .int .i64 r, .bool true] 29)).heap.size = w2.heap.size + 1 by simp] at OE
  have m2 : (Value.slice A' n c').ownBlock = none ∨ (Value.slice A' n c').ownBlock ≠ some q2 := .inr (fun e => by have := (ho.lt q2 e).2; have := HQ2.out; omega)
  have me : (Value.slice A' n c').ownBlock = none ∨ (Value.slice A' n c').ownBlock ≠ some qe := .inr (fun e => by have := (ho.lt qe e).2; have := HQE.out; omega)
  have n12 : q1 ≠ q2 := by rw [← HQ2.out]; omega
  have n02 : q0 ≠ q2 := by rw [← HQ2.out]; omega
  have n1e : q1 ≠ qe := by rw [← HQE.out]; omega
  have n0e : q0 ≠ qe := by rw [← HQE.out]; omega
  have n2e : q2 ≠ qe := by rw [← HQE.out, ← HQ2.out]; omega
  have b2 : w.heap.size ≤ q2 := by have := G2.out.size; have := HQ2.out; omega
  have be : w.heap.size ≤ qe := by have := G2.out.size; have := HQE.out; omega
  rw [HQ2.out] at OX
  rw [HQE.out] at OE
  clear hlt ho g2 gx B1 R1 s2 hc0 hy0 hc1 hy1 hc2 hy2 hc3 hy3
  have hc3 := own_cellAt_mid B3.out (j := 3) rfl
  have hc0 := own_cellAt_mid B3.out (j := 0) rfl
  dsimp only
  go_wp2_with fail
  refine (KE.out HVC.out _ G3.out).mono ?_
  rintro e w3 ⟨rfl, g3⟩
  have B4 := Lib.hid (own_G B3.out g3)
  have R4 := Lib.hid (own_G R3.out g3)
  have O4 := Lib.hid (own_G HO3.out g3)
  have X4 := Lib.hid (own_G OX.out g3)
  have E4 := Lib.hid (own_G OE.out g3)
  have G4 := Lib.hid (G3.out.trans g3)
  clear g3 B3 R3 HO3 OX OE G3 hc0 hc3 HO
  have hc0 := own_cellAt_mid B4.out (j := 0) rfl
  have hy0 := own_frozen_of B4.out 0
  have hc1 := own_cellAt_mid B4.out (j := 1) rfl
  have hy1 := own_frozen_of B4.out 1
  have hc2 := own_cellAt_mid B4.out (j := 2) rfl
  have hy2 := own_frozen_of B4.out 2
  have hc3 := own_cellAt_mid B4.out (j := 3) rfl
  have hy3 := own_frozen_of B4.out 3
  have hs0 := own_cellAt_mid X4.out (j := 0) rfl
  have ht0 := own_frozen_of X4.out 0
  have hs1 := own_cellAt_mid X4.out (j := 1) rfl
  have ht1 := own_frozen_of X4.out 1
  have hs2 := own_cellAt_mid X4.out (j := 2) rfl
  have ht2 := own_frozen_of X4.out 2
  have hs3 := own_cellAt_mid X4.out (j := 3) rfl
  have ht3 := own_frozen_of X4.out 3
  rw [HZ.out, HQE.out, HQ2.out]
  dsimp only
  go_wp2_with fail
  rw [HU.out]
  have G4x := G4
  have B4x := B4
  have R4x := R4
  have O4x := O4
  have E4x := E4
  have X4x := X4
  refine (KBx.out _ G4x.out).mono ?_
  rintro e w5 ⟨vl, rfl, hl, g5⟩
  obtain ⟨Al, cl, rfl⟩ := own_val hl
  have B5 := Lib.hid (own_G B4x.out g5)
  have R5 := Lib.hid (own_G R4x.out g5)
  have O5 := Lib.hid (own_G O4x.out g5)
  have X5 := Lib.hid (own_G X4x.out g5)
  have E5 := Lib.hid (own_G E4x.out g5)
  have G5 := Lib.hid (G4x.out.trans g5)
  have OL := Lib.hid hl
  have ml : (Value.slice Al M.length cl).ownBlock = none ∨ (Value.slice Al M.length cl).ownBlock ≠ some qe := .inr (fun e => by have h1 := (hl.lt qe e).1; have h2 := (E4x.out.lt qe rfl).2; omega)
  have l5 := (R5.out.lt q1 rfl).2
  have le5 := (E5.out.lt qe rfl).2
  clear hl g5 B4 R4 O4 X4 E4 G4 B4x R4x O4x X4x E4x G4x KBx hc0 hy0 hc1 hy1 hc2 hy2 hc3 hy3 hs0 ht0 hs1 ht1 hs2 ht2 hs3 ht3 
  dsimp only
  go_wp2
  go_loopw [8, 13] (fun v i wr => ∃ (k : Nat), k ≤ M.length ∧ i = .int .i64 k ∧ Hid (wr.ownsRow qe 9 1 v k (((M.take k).map (idAt L)).flatMap sv)) ∧ Hid (∀ g, v.ownBlock = some g → g = qe ∨ w5.heap.size ≤ g) ∧ Hid (Gx (some qe) w5 wr)) (fun _ i _ => M.length - (intOf i).toNat)
  case atStart => exact ⟨0, Nat.zero_le _, rfl, E5, Lib.hid (fun g e => .inl (by simpa [Value.ownBlock] using e.symm)), Lib.hid (Gx.of_G (G.refl _) _)⟩
  case round =>
    obtain ⟨k, hk, rfl, HO1, HV1, GX⟩ := hrel
    have hsz : w5.heap.size ≤ wr.heap.size := World.grownBy.size GX.out
    by_cases hlt : k < M.length
    · obtain ⟨bl, ol, i, rfl, hi, hcl⟩ := (rd_ints OL.out).int (k := k) hlt
      obtain ⟨j, rfl, hj⟩ := btwN_in (L := L) (a := t) (b := u) n (by rw [HM.out]; exact List.mem_of_getElem? hi)
      obtain ⟨bc, oc, x', ha, hx, hd0, -⟩ := (HR.out.G G5.out).Cue (k := j) hj
      cases ha
      have NE0 := Lib.hid (show some q0 ≠ some qe by simpa using n0e)
      have NEl := Lib.hid (show some bl ≠ some qe by
        rcases ml with h | h
        · simp [Value.ownBlock] at h
        · simpa [Value.ownBlock] using h)
      have NEc := Lib.hid (show some bc ≠ some qe by
        obtain ⟨b', o', y', hb', -, hd', -⟩ := HR.out.Cue (k := j) hj
        cases hb'
        have h1 := block_lt_of_cell hd'
        simp only at h1
        intro e
        cases e
        omega)
      have HC0 := Lib.hid (own_cellAt_mid B5.out (j := 0) rfl)
      have HCl := Lib.hid hcl
      have HCc := Lib.hid hd0
      have hq := Gx.cell GX.out HC0.out NE0.out
      have hq2 := Gx.cell GX.out hcl NEl.out
      have hq3 := Gx.cell GX.out hd0 NEc.out
      have HS := Lib.hid (show ((M.take k).map (idAt L)).flatMap sv ++ [.string x'.Id] = ((M.take (k + 1)).map (idAt L)).flatMap sv by rw [take_snoc hi, List.map_append, List.flatMap_append]; simp [sv, idAt_at hx])
      have hlt2 : (k : Int) < (M.length : Int) := by omega
      have hk0 : 0 ≤ (k : Int) := by omega
      have hj2 : (j : Int) < (n : Int) := by have := Hn.out; omega
      have hj0 : 0 ≤ (j : Int) := by omega
      clear hcl hd0 hi hx
      go_wp2
      go_region_held3 (fun w' => w'.cell? ⟨q0, 0, none⟩ = some (.slice (some ⟨bc, oc, none⟩) n c) ∧ w'.cell? ⟨bl, ol + k, none⟩ = some (.int .i64 j) ∧ w'.cell? ⟨bc, oc + j * 6, none⟩ = some (.string x'.Id)) (first | go_keep | exact ⟨Gx.cell G9.out HC0.out NE0.out, Gx.cell G9.out HCl.out NEl.out, Gx.cell G9.out HCc.out NEc.out⟩) (first | (refine step_append_lies _ (by rfl) (.tmp 59) (.tmp 69) 47 (by rfl) qe 9 i0 (.string ⟨#[]⟩) 1 16 Try.underlying47 HI.out.1 HI.out.2.1 HI.out.2.2.1 HI.out.2.2.2 rfl (by decide) _ k _ (by rfl) (World.ownsRow.alloc (World.ownsRow.drew HO1.out) _) ⟨wr.heap.size, 0, none⟩ 1 1 [.string x'.Id] (by rfl) rfl (block_news _ [.string x'.Id] _) (str_oneCell x'.Id) (by decide) (by unfold maxLen; omega) (by omega) (by simp; omega) (wr.heap.size + 1) (by simp) ?_; intro g cap w1 hown' hgrow hlies _; have HO2 := Lib.hid hown'; have G9 := Lib.hid (Gx.grown2 (GX.out.drew.alloc _) hgrow HV1.out); have HV2 := Lib.hid (show ∀ y, (Value.slice (some ⟨g, 0, none⟩) (k + 1) cap).ownBlock = some y → y = qe ∨ w5.heap.size ≤ y from fun y hy => by obtain rfl : g = y := (by simpa [Value.ownBlock] using hy); rcases hlies with h | h; exact HV1.out _ h; exact .inr (by omega)); clear hown' hgrow hlies))
      go_wp2
      go_roundw
      case rel => exact ⟨k + 1, by omega, by go_num, HS.out ▸ HO2, HV2, G9⟩
      case measure => simp [intOf]; omega
    · have hkm : k = M.length := by omega
      have e1 : (M.take k).map (idAt L) = idsB L t u := by rw [List.take_of_length_le (by omega)]; exact HIDS.out
      have e2 : k = (idsB L t u).length := by rw [← HIDS.out, List.length_map]; exact hkm
      rw [e1] at HO1
      have E2 := Lib.hid e2
      clear e1 e2 hkm
      obtain ⟨A3, c3, rfl⟩ := own_val HO1.out
      have R6 := Lib.hid (own_Gx R5.out GX.out (.inr (by simp [Value.ownBlock]; omega)))
      have X6 := Lib.hid (own_Gx X5.out GX.out (.inr (by simp [Value.ownBlock]; omega)))
      have O6 := Lib.hid (own_Gx O5.out GX.out me)
      have G6 := Lib.hid (Gx.G G5.out GX.out (by intro i hi; cases hi; exact be))
      have D3 := Lib.hid (show ∀ a b, A' = some a → A3 = some b → a.block ≠ b.block from fun a b ha hb => by
        have h1 := HV1.out b.block (by rw [hb]; rfl)
        have h2 := (O5.out.lt a.block (by rw [ha]; rfl)).2
        intro e
        rcases h1 with h1 | h1
        · rcases me with h | h
          · rw [ha] at h; simp [Value.ownBlock] at h
          · exact h (by rw [ha, ← h1, ← e]; rfl)
        · omega)
      have m3 : ∀ q, q < w5.heap.size → q ≠ qe → (Value.slice A3 k c3).ownBlock = none ∨ (Value.slice A3 k c3).ownBlock ≠ some q := fun q h1 h2 => .inr (fun e => by rcases HV1.out q e with h | h <;> omega)
      have m31 := Lib.hid (m3 q1 (R5.out.lt q1 rfl).2 n1e)
      have m32 := Lib.hid (m3 q2 (X5.out.lt q2 rfl).2 n2e)
      clear m3
      have hs0 := own_cellAt_mid X6.out (j := 0) rfl
      have ht0 := own_frozen_of X6.out 0
      have hs1 := own_cellAt_mid X6.out (j := 1) rfl
      have ht1 := own_frozen_of X6.out 1
      have hs2 := own_cellAt_mid X6.out (j := 2) rfl
      have ht2 := own_frozen_of X6.out 2
      have hs3 := own_cellAt_mid X6.out (j := 3) rfl
      have ht3 := own_frozen_of X6.out 3
      have hr0 := own_cellAt_mid R6.out (j := 0) rfl
      have hz0 := own_frozen_of R6.out 0
      have hr1 := own_cellAt_mid R6.out (j := 1) rfl
      have hz1 := own_frozen_of R6.out 1
      have hr2 := own_cellAt_mid R6.out (j := 2) rfl
      have hz2 := own_frozen_of R6.out 2
      have hr3 := own_cellAt_mid R6.out (j := 3) rfl
      have hz3 := own_frozen_of R6.out 3
      go_wp2
      have S1 := Lib.hid (X6.out.stored 1 (.int .i64 u))
      have V1 := Lib.hid S1.out.2
      have R7 := Lib.hid (own_Gx R6.out V1.out (.inr (by simp [Value.ownBlock]; omega)))
      have T0 := Lib.hid (R7.out.stored 0 (.slice A' n c'))
      have Z0 := Lib.hid T0.out.2
      have T1 := Lib.hid (T0.out.1.stored 1 (.int .i64 u))
      have Z1 := Lib.hid (Gx.trans Z0.out T1.out.2)
      have T2 := Lib.hid (T1.out.1.stored 2 (.int .i64 r))
      have Z2 := Lib.hid (Gx.trans Z1.out T2.out.2)
      have T3 := Lib.hid (T2.out.1.stored 3 (.bool true))
      have Z3 := Lib.hid (Gx.trans Z2.out T3.out.2)
      have G7 := Lib.hid (Gx.G (Gx.G G6.out V1.out (by intro i hi; cases hi; exact b2)) Z3.out (by intro i hi; cases hi; exact b1))
      have O7 := Lib.hid (own_Gx (own_Gx O6.out V1.out m2) Z3.out m1)
      have O8 := Lib.hid (own_Gx (own_Gx HO1.out V1.out m32.out) Z3.out m31.out)
      have k0 := own_cellAt_mid T3.out.1 (j := 0) rfl
      have k1 := own_cellAt_mid T3.out.1 (j := 1) rfl
      have k2 := own_cellAt_mid T3.out.1 (j := 2) rfl
      have k3 := own_cellAt_mid T3.out.1 (j := 3) rfl
      refine bodyPost_ret (v := .tuple #[pV A' n c' u r true, .slice A3 k c3, .int .i64 0]) (by simp [results, Try.results41, go_sem, k0, k1, k2, k3]) rfl ?_
      rw [H.out]
      have e := Hn.out
      subst e
      have e := E2.out
      subst e
      exact ⟨A', c', A3, c3, rfl, G7.out, O7.out, O8.out.mono be, D3.out⟩
end Go.Proofs.Ytdpmnmhblnjhiaa
