/-
  Walks: PlayOn, PauseOn, by both texts.
-/
import Derived.Test.YtdpmnmhblnjhiaaOwn
namespace Go.Proofs.Ytdpmnmhblnjhiaa
open Go.RowKit

set_option maxHeartbeats 2000000 in
theorem l17Switch_any (b : Nat) (a : Addr) (n c : Nat) (t r : Int) (p q : Bool) (L : List SCue) (w : World) (hr : Rd w (some a) 6 cCue L) (hn : L.length = n) (hb : n ≤ 4194304) (hwf : ∀ x ∈ L, WfCue x) (hc0 : w.cell? ⟨b, 0, none⟩ = some (.slice (some a) n c)) (hc1 : w.cell? ⟨b, 1, none⟩ = some (.int .i64 t)) (hc2 : w.cell? ⟨b, 2, none⟩ = some (.int .i64 r)) (hc3 : w.cell? ⟨b, 3, none⟩ = some (.bool p)) :
    Calls Try.prog 70 #[.pointer (some ⟨b, 0, none⟩), .bool q] w (ResP w (swR L t r p q)) := by
  have B0 := Lib.hid ((G.refl w).alloc (.cells #[.slice none 0 0, .int .i64 0, .int .i64 0, .bool false] 29))
  replace hc0 := B0.out.cell hc0
  replace hc1 := B0.out.cell hc1
  replace hc2 := B0.out.cell hc2
  replace hc3 := B0.out.cell hc3
  have KV := Lib.hid (l17Ok_any b (some a) n c t r L (w.alloc (.cells #[.slice none 0 0, .int .i64 0, .int .i64 0, .bool false] 29)) (hr.G B0.out) hn hb hwf hc0 hc1 hc2)
  have KO := Lib.hid (fun (W : World) (g : G w W) => l17Own_any b a n c t r p L W (hr.G g) hn hb)
  have OR := Lib.hid (own_new (w := w) (base := w.heap.size) (n := 1) (cap := 1) (size := 4) (e := 29) (cur := #[.slice none 0 0, .int .i64 0, .int .i64 0, .bool false]) (Nat.le_refl _) (by decide) (by decide) rfl)
  have Hn := Lib.hid hn
  clear hr hn hwf
  cases hv : vplB L t r
  · have H := Lib.hid (show swR L t r p q = noP 1 by unfold swR; rw [if_pos hv])
    have HV := Lib.hid hv
    clear hv
    go_enter Try.func70, Try.ntmps70
    go_wp2_with fail
    refine KV.out.mono ?_
    rintro e w1 ⟨rfl, g1⟩
    have G1 := Lib.hid (B0.out.trans g1)
    have R1 := Lib.hid (own_G OR.out g1)
    replace hc0 := g1.cell hc0
    replace hc1 := g1.cell hc1
    replace hc2 := g1.cell hc2
    replace hc3 := g1.cell hc3
    obtain ⟨q0, HQ0⟩ : ∃ q, Hid (w.heap.size = q) := ⟨_, rfl⟩
    have b0 : w.heap.size ≤ q0 := by rw [← HQ0.out]; exact Nat.le_refl _
    rw [HQ0.out] at R1
    clear g1 OR
    rw [HV.out, HQ0.out]
    dsimp only
    have hr0 := own_cellAt_mid R1.out (j := 0) rfl
    have hz0 := own_frozen_of R1.out 0
    have hr1 := own_cellAt_mid R1.out (j := 1) rfl
    have hz1 := own_frozen_of R1.out 1
    have hr2 := own_cellAt_mid R1.out (j := 2) rfl
    have hz2 := own_frozen_of R1.out 2
    have hr3 := own_cellAt_mid R1.out (j := 3) rfl
    have hz3 := own_frozen_of R1.out 3
    go_wp2
    have T0 := Lib.hid (R1.out.stored 0 (.slice none 0 0))
    have Z0 := Lib.hid T0.out.2
    have T1 := Lib.hid (T0.out.1.stored 1 (.int .i64 0))
    have Z1 := Lib.hid (Gx.trans Z0.out T1.out.2)
    have T2 := Lib.hid (T1.out.1.stored 2 (.int .i64 0))
    have Z2 := Lib.hid (Gx.trans Z1.out T2.out.2)
    have T3 := Lib.hid (T2.out.1.stored 3 (.bool false))
    have Z3 := Lib.hid (Gx.trans Z2.out T3.out.2)
    have G2 := Lib.hid (Gx.G G1.out Z3.out (by intro i hi; cases hi; exact b0))
    have k0 := own_cellAt_mid T3.out.1 (j := 0) rfl
    have k1 := own_cellAt_mid T3.out.1 (j := 1) rfl
    have k2 := own_cellAt_mid T3.out.1 (j := 2) rfl
    have k3 := own_cellAt_mid T3.out.1 (j := 3) rfl
    refine bodyPost_ret (v := .tuple #[pV none 0 0 0 0 false, .int .i64 1]) (by simp [results, Try.results70, go_sem, k0, k1, k2, k3]) rfl (resP_no H.out G2.out)
  have HF := Lib.hid (show swR L t r p q = if p = q then noP 6 else ⟨L, t, r, q, 0⟩ by unfold swR; rw [if_neg (by rw [hv]; simp)])
  have HV := Lib.hid hv
  clear hv
  by_cases hpq : p = q
  · subst hpq
    have H := Lib.hid (show swR L t r p p = noP 6 by rw [HF.out, if_pos rfl])
    go_enter Try.func70, Try.ntmps70
    go_wp2_with fail
    refine KV.out.mono ?_
    rintro e w1 ⟨rfl, g1⟩
    have G1 := Lib.hid (B0.out.trans g1)
    have R1 := Lib.hid (own_G OR.out g1)
    replace hc0 := g1.cell hc0
    replace hc1 := g1.cell hc1
    replace hc2 := g1.cell hc2
    replace hc3 := g1.cell hc3
    obtain ⟨q0, HQ0⟩ : ∃ q, Hid (w.heap.size = q) := ⟨_, rfl⟩
    have b0 : w.heap.size ≤ q0 := by rw [← HQ0.out]; exact Nat.le_refl _
    rw [HQ0.out] at R1
    clear g1 OR
    rw [HV.out, HQ0.out]
    dsimp only
    have hr0 := own_cellAt_mid R1.out (j := 0) rfl
    have hz0 := own_frozen_of R1.out 0
    have hr1 := own_cellAt_mid R1.out (j := 1) rfl
    have hz1 := own_frozen_of R1.out 1
    have hr2 := own_cellAt_mid R1.out (j := 2) rfl
    have hz2 := own_frozen_of R1.out 2
    have hr3 := own_cellAt_mid R1.out (j := 3) rfl
    have hz3 := own_frozen_of R1.out 3
    go_wp2
    have T0 := Lib.hid (R1.out.stored 0 (.slice none 0 0))
    have Z0 := Lib.hid T0.out.2
    have T1 := Lib.hid (T0.out.1.stored 1 (.int .i64 0))
    have Z1 := Lib.hid (Gx.trans Z0.out T1.out.2)
    have T2 := Lib.hid (T1.out.1.stored 2 (.int .i64 0))
    have Z2 := Lib.hid (Gx.trans Z1.out T2.out.2)
    have T3 := Lib.hid (T2.out.1.stored 3 (.bool false))
    have Z3 := Lib.hid (Gx.trans Z2.out T3.out.2)
    have G2 := Lib.hid (Gx.G G1.out Z3.out (by intro i hi; cases hi; exact b0))
    have k0 := own_cellAt_mid T3.out.1 (j := 0) rfl
    have k1 := own_cellAt_mid T3.out.1 (j := 1) rfl
    have k2 := own_cellAt_mid T3.out.1 (j := 2) rfl
    have k3 := own_cellAt_mid T3.out.1 (j := 3) rfl
    refine bodyPost_ret (v := .tuple #[pV none 0 0 0 0 false, .int .i64 6]) (by simp [results, Try.results70, go_sem, k0, k1, k2, k3]) rfl (resP_no H.out G2.out)
  have H := Lib.hid (show swR L t r p q = ⟨L, t, r, q, 0⟩ by rw [HF.out, if_neg hpq])
  have hd : (p == q) = false := by simp [hpq]
  go_enter Try.func70, Try.ntmps70
  go_wp2_with fail
  refine KV.out.mono ?_
  rintro e w1 ⟨rfl, g1⟩
  have G1 := Lib.hid (B0.out.trans g1)
  have R1 := Lib.hid (own_G OR.out g1)
  replace hc0 := g1.cell hc0
  replace hc1 := g1.cell hc1
  replace hc2 := g1.cell hc2
  replace hc3 := g1.cell hc3
  obtain ⟨q0, HQ0⟩ : ∃ q, Hid (w.heap.size = q) := ⟨_, rfl⟩
  have b0 : w.heap.size ≤ q0 := by rw [← HQ0.out]; exact Nat.le_refl _
  rw [HQ0.out] at R1
  clear g1 OR
  rw [HV.out, HQ0.out]
  dsimp only
  go_wp2_with fail
  refine (KO.out _ G1.out hc0 hc1 hc2 hc3).mono ?_
  rintro e w2 ⟨A', c', rfl, g2, ho⟩
  have HO := Lib.hid (ho.mono G1.out.size)
  have hlt := ho.lt
  have l0 := (R1.out.lt q0 rfl).2
  have s2 := g2.size
  have G2 := Lib.hid (G1.out.trans g2)
  have gx := (G.refl w2).alloc (.cells #[.slice A' n c', .int .i64 t, .int .i64 r, .bool q] 29)
  have R2 := Lib.hid (own_G R1.out g2)
  have R3 := Lib.hid (own_G R2.out gx)
  have HO3 := Lib.hid (own_G HO.out gx)
  have n01 : q0 ≠ w2.heap.size := by omega
  have m0 : (Value.slice A' n c').ownBlock = none ∨ (Value.slice A' n c').ownBlock ≠ some q0 := .inr (fun e => by have := (hlt q0 e).1; omega)
  have G3 := Lib.hid (G2.out.trans gx)
  clear hlt ho g2 gx hc0 hc1 hc2 hc3
  have hr0 := own_cellAt_mid R2.out (j := 0) rfl
  have hz0 := own_frozen_of R2.out 0
  have hr1 := own_cellAt_mid R2.out (j := 1) rfl
  have hz1 := own_frozen_of R2.out 1
  have hr2 := own_cellAt_mid R2.out (j := 2) rfl
  have hz2 := own_frozen_of R2.out 2
  have hr3 := own_cellAt_mid R2.out (j := 3) rfl
  have hz3 := own_frozen_of R2.out 3
  have hs0 := own_cellAt_mid R3.out (j := 0) rfl
  have ht0 := own_frozen_of R3.out 0
  have hs1 := own_cellAt_mid R3.out (j := 1) rfl
  have ht1 := own_frozen_of R3.out 1
  have hs2 := own_cellAt_mid R3.out (j := 2) rfl
  have ht2 := own_frozen_of R3.out 2
  have hs3 := own_cellAt_mid R3.out (j := 3) rfl
  have ht3 := own_frozen_of R3.out 3
  dsimp only
  go_wp2
  have T0 := Lib.hid (R3.out.stored 0 ((.slice A' n c')))
  have Z0 := Lib.hid T0.out.2
  have T1 := Lib.hid (T0.out.1.stored 1 (.int .i64 t))
  have Z1 := Lib.hid (Gx.trans Z0.out T1.out.2)
  have T2 := Lib.hid (T1.out.1.stored 2 (.int .i64 r))
  have Z2 := Lib.hid (Gx.trans Z1.out T2.out.2)
  have T3 := Lib.hid (T2.out.1.stored 3 (.bool q))
  have Z3 := Lib.hid (Gx.trans Z2.out T3.out.2)
  have G4 := Lib.hid (Gx.G G3.out Z3.out (by intro i hi; cases hi; exact b0))
  have O4 := Lib.hid (own_Gx HO3.out Z3.out m0)
  have k0 := own_cellAt_mid T3.out.1 (j := 0) rfl
  have k1 := own_cellAt_mid T3.out.1 (j := 1) rfl
  have k2 := own_cellAt_mid T3.out.1 (j := 2) rfl
  have k3 := own_cellAt_mid T3.out.1 (j := 3) rfl
  refine bodyPost_ret (v := .tuple #[pV A' n c' t r q, .int .i64 0]) (by simp [results, Try.results70, go_sem, k0, k1, k2, k3]) rfl ?_
  rw [H.out]
  have e := Hn.out
  subst e
  exact ⟨A', c', rfl, G4.out, O4.out⟩

set_option maxHeartbeats 2000000 in
theorem iPlayOn_any (a : Addr) (n c : Nat) (t r : Int) (p : Bool) (L : List SCue) (w : World) (hr : Rd w (some a) 6 cCue L) (hn : L.length = n) (hb : n ≤ 4194304) (hcap : n ≤ c) (hwf : ∀ x ∈ L, WfCue x) :
    Calls Try.prog 40 #[pV (some a) n c t r p] w (ResP w (swR L t r p true)) := by
  have B0 := Lib.hid (((G.refl w).alloc (.cells #[.slice (some a) n c, .int .i64 t, .int .i64 r, .bool p] 29)).alloc (.cells #[.slice none 0 0, .int .i64 0, .int .i64 0, .bool false] 29))
  have KS := Lib.hid (switched_any (some a) n c t r p true L ((w.alloc (.cells #[.slice (some a) n c, .int .i64 t, .int .i64 r, .bool p] 29)).alloc (.cells #[.slice none 0 0, .int .i64 0, .int .i64 0, .bool false] 29)) (hr.G B0.out) hn hb hcap hwf)
  have OR := Lib.hid (own_new (w := w.alloc (.cells #[.slice (some a) n c, .int .i64 t, .int .i64 r, .bool p] 29)) (base := w.heap.size) (n := 1) (cap := 1) (size := 4) (e := 29) (cur := #[.slice none 0 0, .int .i64 0, .int .i64 0, .bool false]) (by simp) (by decide) (by decide) rfl)
  rw [show (w.alloc (.cells #[.slice (some a) n c, .int .i64 t, .int .i64 r, .bool p] 29)).heap.size = w.heap.size + 1 by simp] at OR
  have l0 := (OR.out.lt (w.heap.size + 1) rfl).2
  clear hr hn hwf hcap
  obtain ⟨R, HR⟩ : ∃ R, Hid (swR L t r p true = R) := ⟨_, rfl⟩
  rw [HR.out] at KS ⊢
  unfold pV
  go_enter Try.func40, Try.ntmps40
  go_wp2_with fail
  refine KS.out.mono ?_
  rintro e w1 ⟨A', c', rfl, g1, ho⟩
  have HO := Lib.hid (ho.mono B0.out.size)
  have hlt := ho.lt
  have G1 := Lib.hid (B0.out.trans g1)
  have R1 := Lib.hid (own_G OR.out g1)
  obtain ⟨q1, HQ1⟩ : ∃ q, Hid (w.heap.size + 1 = q) := ⟨_, rfl⟩
  have b1 : w.heap.size ≤ q1 := by rw [← HQ1.out]; omega
  have m1 : (Value.slice A' R.L.length c').ownBlock = none ∨ (Value.slice A' R.L.length c').ownBlock ≠ some q1 := .inr (fun e => by have := (hlt q1 e).1; have := HQ1.out; omega)
  rw [HQ1.out] at R1
  clear g1 hlt ho OR B0
  rw [HQ1.out]
  have hr0 := own_cellAt_mid R1.out (j := 0) rfl
  have hz0 := own_frozen_of R1.out 0
  have hr1 := own_cellAt_mid R1.out (j := 1) rfl
  have hz1 := own_frozen_of R1.out 1
  have hr2 := own_cellAt_mid R1.out (j := 2) rfl
  have hz2 := own_frozen_of R1.out 2
  have hr3 := own_cellAt_mid R1.out (j := 3) rfl
  have hz3 := own_frozen_of R1.out 3
  dsimp only
  go_wp2
  have T0 := Lib.hid (R1.out.stored 0 ((.slice A' R.L.length c')))
  have Z0 := Lib.hid T0.out.2
  have T1 := Lib.hid (T0.out.1.stored 1 (.int .i64 R.t))
  have Z1 := Lib.hid (Gx.trans Z0.out T1.out.2)
  have T2 := Lib.hid (T1.out.1.stored 2 (.int .i64 R.r))
  have Z2 := Lib.hid (Gx.trans Z1.out T2.out.2)
  have T3 := Lib.hid (T2.out.1.stored 3 (.bool R.p))
  have Z3 := Lib.hid (Gx.trans Z2.out T3.out.2)
  have G2 := Lib.hid (Gx.G G1.out Z3.out (by intro i hi; cases hi; exact b1))
  have O2 := Lib.hid (own_Gx HO.out Z3.out m1)
  have k0 := own_cellAt_mid T3.out.1 (j := 0) rfl
  have k1 := own_cellAt_mid T3.out.1 (j := 1) rfl
  have k2 := own_cellAt_mid T3.out.1 (j := 2) rfl
  have k3 := own_cellAt_mid T3.out.1 (j := 3) rfl
  refine bodyPost_ret (v := .tuple #[pV A' R.L.length c' R.t R.r R.p, .int .i64 R.code]) (by simp [results, Try.results40, go_sem, k0, k1, k2, k3]) rfl ⟨A', c', rfl, G2.out, O2.out⟩

set_option maxHeartbeats 2000000 in
theorem sPlayOn_any (a : Addr) (n c : Nat) (t r : Int) (p : Bool) (L : List SCue) (w : World) (hr : Rd w (some a) 6 cCue L) (hn : L.length = n) (hb : n ≤ 4194304) (hwf : ∀ x ∈ L, WfCue x) :
    Calls Try.prog 39 #[pV (some a) n c t r p] w (ResP w (swR L t r p true)) := by
  have B0 := Lib.hid (((G.refl w).alloc (.cells #[.slice (some a) n c, .int .i64 t, .int .i64 r, .bool p] 29)).alloc (.cells #[.slice none 0 0, .int .i64 0, .int .i64 0, .bool false] 29))
  have d0 : ((w.alloc (.cells #[.slice (some a) n c, .int .i64 t, .int .i64 r, .bool p] 29)).alloc (.cells #[.slice none 0 0, .int .i64 0, .int .i64 0, .bool false] 29)).cell? ⟨w.heap.size, 0, none⟩ = some (.slice (some a) n c) := ((G.refl (w.alloc (.cells #[.slice (some a) n c, .int .i64 t, .int .i64 r, .bool p] 29))).alloc (.cells #[.slice none 0 0, .int .i64 0, .int .i64 0, .bool false] 29)).cell ((World.cell?_alloc_at _ _ _ 0 rfl).trans rfl)
  have d1 : ((w.alloc (.cells #[.slice (some a) n c, .int .i64 t, .int .i64 r, .bool p] 29)).alloc (.cells #[.slice none 0 0, .int .i64 0, .int .i64 0, .bool false] 29)).cell? ⟨w.heap.size, 1, none⟩ = some (.int .i64 t) := ((G.refl (w.alloc (.cells #[.slice (some a) n c, .int .i64 t, .int .i64 r, .bool p] 29))).alloc (.cells #[.slice none 0 0, .int .i64 0, .int .i64 0, .bool false] 29)).cell ((World.cell?_alloc_at _ _ _ 1 rfl).trans rfl)
  have d2 : ((w.alloc (.cells #[.slice (some a) n c, .int .i64 t, .int .i64 r, .bool p] 29)).alloc (.cells #[.slice none 0 0, .int .i64 0, .int .i64 0, .bool false] 29)).cell? ⟨w.heap.size, 2, none⟩ = some (.int .i64 r) := ((G.refl (w.alloc (.cells #[.slice (some a) n c, .int .i64 t, .int .i64 r, .bool p] 29))).alloc (.cells #[.slice none 0 0, .int .i64 0, .int .i64 0, .bool false] 29)).cell ((World.cell?_alloc_at _ _ _ 2 rfl).trans rfl)
  have d3 : ((w.alloc (.cells #[.slice (some a) n c, .int .i64 t, .int .i64 r, .bool p] 29)).alloc (.cells #[.slice none 0 0, .int .i64 0, .int .i64 0, .bool false] 29)).cell? ⟨w.heap.size, 3, none⟩ = some (.bool p) := ((G.refl (w.alloc (.cells #[.slice (some a) n c, .int .i64 t, .int .i64 r, .bool p] 29))).alloc (.cells #[.slice none 0 0, .int .i64 0, .int .i64 0, .bool false] 29)).cell ((World.cell?_alloc_at _ _ _ 3 rfl).trans rfl)
  have KS := Lib.hid (l17Switch_any w.heap.size a n c t r p true L ((w.alloc (.cells #[.slice (some a) n c, .int .i64 t, .int .i64 r, .bool p] 29)).alloc (.cells #[.slice none 0 0, .int .i64 0, .int .i64 0, .bool false] 29)) (hr.G B0.out) hn hb hwf d0 d1 d2 d3)
  clear d0 d1 d2 d3
  have OR := Lib.hid (own_new (w := w.alloc (.cells #[.slice (some a) n c, .int .i64 t, .int .i64 r, .bool p] 29)) (base := w.heap.size) (n := 1) (cap := 1) (size := 4) (e := 29) (cur := #[.slice none 0 0, .int .i64 0, .int .i64 0, .bool false]) (by simp) (by decide) (by decide) rfl)
  rw [show (w.alloc (.cells #[.slice (some a) n c, .int .i64 t, .int .i64 r, .bool p] 29)).heap.size = w.heap.size + 1 by simp] at OR
  have l0 := (OR.out.lt (w.heap.size + 1) rfl).2
  clear hr hn hwf 
  obtain ⟨R, HR⟩ : ∃ R, Hid (swR L t r p true = R) := ⟨_, rfl⟩
  rw [HR.out] at KS ⊢
  unfold pV
  go_enter Try.func39, Try.ntmps39
  go_wp2_with fail
  refine KS.out.mono ?_
  rintro e w1 ⟨A', c', rfl, g1, ho⟩
  have HO := Lib.hid (ho.mono B0.out.size)
  have hlt := ho.lt
  have G1 := Lib.hid (B0.out.trans g1)
  have R1 := Lib.hid (own_G OR.out g1)
  obtain ⟨q1, HQ1⟩ : ∃ q, Hid (w.heap.size + 1 = q) := ⟨_, rfl⟩
  have b1 : w.heap.size ≤ q1 := by rw [← HQ1.out]; omega
  have m1 : (Value.slice A' R.L.length c').ownBlock = none ∨ (Value.slice A' R.L.length c').ownBlock ≠ some q1 := .inr (fun e => by have := (hlt q1 e).1; have := HQ1.out; omega)
  rw [HQ1.out] at R1
  clear g1 hlt ho OR B0
  rw [HQ1.out]
  have hr0 := own_cellAt_mid R1.out (j := 0) rfl
  have hz0 := own_frozen_of R1.out 0
  have hr1 := own_cellAt_mid R1.out (j := 1) rfl
  have hz1 := own_frozen_of R1.out 1
  have hr2 := own_cellAt_mid R1.out (j := 2) rfl
  have hz2 := own_frozen_of R1.out 2
  have hr3 := own_cellAt_mid R1.out (j := 3) rfl
  have hz3 := own_frozen_of R1.out 3
  dsimp only
  go_wp2
  have T0 := Lib.hid (R1.out.stored 0 ((.slice A' R.L.length c')))
  have Z0 := Lib.hid T0.out.2
  have T1 := Lib.hid (T0.out.1.stored 1 (.int .i64 R.t))
  have Z1 := Lib.hid (Gx.trans Z0.out T1.out.2)
  have T2 := Lib.hid (T1.out.1.stored 2 (.int .i64 R.r))
  have Z2 := Lib.hid (Gx.trans Z1.out T2.out.2)
  have T3 := Lib.hid (T2.out.1.stored 3 (.bool R.p))
  have Z3 := Lib.hid (Gx.trans Z2.out T3.out.2)
  have G2 := Lib.hid (Gx.G G1.out Z3.out (by intro i hi; cases hi; exact b1))
  have O2 := Lib.hid (own_Gx HO.out Z3.out m1)
  have k0 := own_cellAt_mid T3.out.1 (j := 0) rfl
  have k1 := own_cellAt_mid T3.out.1 (j := 1) rfl
  have k2 := own_cellAt_mid T3.out.1 (j := 2) rfl
  have k3 := own_cellAt_mid T3.out.1 (j := 3) rfl
  refine bodyPost_ret (v := .tuple #[pV A' R.L.length c' R.t R.r R.p, .int .i64 R.code]) (by simp [results, Try.results39, go_sem, k0, k1, k2, k3]) rfl ⟨A', c', rfl, G2.out, O2.out⟩

set_option maxHeartbeats 2000000 in
theorem iPauseOn_any (a : Addr) (n c : Nat) (t r : Int) (p : Bool) (L : List SCue) (w : World) (hr : Rd w (some a) 6 cCue L) (hn : L.length = n) (hb : n ≤ 4194304) (hcap : n ≤ c) (hwf : ∀ x ∈ L, WfCue x) :
    Calls Try.prog 38 #[pV (some a) n c t r p] w (ResP w (swR L t r p false)) := by
  have B0 := Lib.hid (((G.refl w).alloc (.cells #[.slice (some a) n c, .int .i64 t, .int .i64 r, .bool p] 29)).alloc (.cells #[.slice none 0 0, .int .i64 0, .int .i64 0, .bool false] 29))
  have KS := Lib.hid (switched_any (some a) n c t r p false L ((w.alloc (.cells #[.slice (some a) n c, .int .i64 t, .int .i64 r, .bool p] 29)).alloc (.cells #[.slice none 0 0, .int .i64 0, .int .i64 0, .bool false] 29)) (hr.G B0.out) hn hb hcap hwf)
  have OR := Lib.hid (own_new (w := w.alloc (.cells #[.slice (some a) n c, .int .i64 t, .int .i64 r, .bool p] 29)) (base := w.heap.size) (n := 1) (cap := 1) (size := 4) (e := 29) (cur := #[.slice none 0 0, .int .i64 0, .int .i64 0, .bool false]) (by simp) (by decide) (by decide) rfl)
  rw [show (w.alloc (.cells #[.slice (some a) n c, .int .i64 t, .int .i64 r, .bool p] 29)).heap.size = w.heap.size + 1 by simp] at OR
  have l0 := (OR.out.lt (w.heap.size + 1) rfl).2
  clear hr hn hwf hcap
  obtain ⟨R, HR⟩ : ∃ R, Hid (swR L t r p false = R) := ⟨_, rfl⟩
  rw [HR.out] at KS ⊢
  unfold pV
  go_enter Try.func38, Try.ntmps38
  go_wp2_with fail
  refine KS.out.mono ?_
  rintro e w1 ⟨A', c', rfl, g1, ho⟩
  have HO := Lib.hid (ho.mono B0.out.size)
  have hlt := ho.lt
  have G1 := Lib.hid (B0.out.trans g1)
  have R1 := Lib.hid (own_G OR.out g1)
  obtain ⟨q1, HQ1⟩ : ∃ q, Hid (w.heap.size + 1 = q) := ⟨_, rfl⟩
  have b1 : w.heap.size ≤ q1 := by rw [← HQ1.out]; omega
  have m1 : (Value.slice A' R.L.length c').ownBlock = none ∨ (Value.slice A' R.L.length c').ownBlock ≠ some q1 := .inr (fun e => by have := (hlt q1 e).1; have := HQ1.out; omega)
  rw [HQ1.out] at R1
  clear g1 hlt ho OR B0
  rw [HQ1.out]
  have hr0 := own_cellAt_mid R1.out (j := 0) rfl
  have hz0 := own_frozen_of R1.out 0
  have hr1 := own_cellAt_mid R1.out (j := 1) rfl
  have hz1 := own_frozen_of R1.out 1
  have hr2 := own_cellAt_mid R1.out (j := 2) rfl
  have hz2 := own_frozen_of R1.out 2
  have hr3 := own_cellAt_mid R1.out (j := 3) rfl
  have hz3 := own_frozen_of R1.out 3
  dsimp only
  go_wp2
  have T0 := Lib.hid (R1.out.stored 0 ((.slice A' R.L.length c')))
  have Z0 := Lib.hid T0.out.2
  have T1 := Lib.hid (T0.out.1.stored 1 (.int .i64 R.t))
  have Z1 := Lib.hid (Gx.trans Z0.out T1.out.2)
  have T2 := Lib.hid (T1.out.1.stored 2 (.int .i64 R.r))
  have Z2 := Lib.hid (Gx.trans Z1.out T2.out.2)
  have T3 := Lib.hid (T2.out.1.stored 3 (.bool R.p))
  have Z3 := Lib.hid (Gx.trans Z2.out T3.out.2)
  have G2 := Lib.hid (Gx.G G1.out Z3.out (by intro i hi; cases hi; exact b1))
  have O2 := Lib.hid (own_Gx HO.out Z3.out m1)
  have k0 := own_cellAt_mid T3.out.1 (j := 0) rfl
  have k1 := own_cellAt_mid T3.out.1 (j := 1) rfl
  have k2 := own_cellAt_mid T3.out.1 (j := 2) rfl
  have k3 := own_cellAt_mid T3.out.1 (j := 3) rfl
  refine bodyPost_ret (v := .tuple #[pV A' R.L.length c' R.t R.r R.p, .int .i64 R.code]) (by simp [results, Try.results38, go_sem, k0, k1, k2, k3]) rfl ⟨A', c', rfl, G2.out, O2.out⟩

set_option maxHeartbeats 2000000 in
theorem sPauseOn_any (a : Addr) (n c : Nat) (t r : Int) (p : Bool) (L : List SCue) (w : World) (hr : Rd w (some a) 6 cCue L) (hn : L.length = n) (hb : n ≤ 4194304) (hwf : ∀ x ∈ L, WfCue x) :
    Calls Try.prog 37 #[pV (some a) n c t r p] w (ResP w (swR L t r p false)) := by
  have B0 := Lib.hid (((G.refl w).alloc (.cells #[.slice (some a) n c, .int .i64 t, .int .i64 r, .bool p] 29)).alloc (.cells #[.slice none 0 0, .int .i64 0, .int .i64 0, .bool false] 29))
  have d0 : ((w.alloc (.cells #[.slice (some a) n c, .int .i64 t, .int .i64 r, .bool p] 29)).alloc (.cells #[.slice none 0 0, .int .i64 0, .int .i64 0, .bool false] 29)).cell? ⟨w.heap.size, 0, none⟩ = some (.slice (some a) n c) := ((G.refl (w.alloc (.cells #[.slice (some a) n c, .int .i64 t, .int .i64 r, .bool p] 29))).alloc (.cells #[.slice none 0 0, .int .i64 0, .int .i64 0, .bool false] 29)).cell ((World.cell?_alloc_at _ _ _ 0 rfl).trans rfl)
  have d1 : ((w.alloc (.cells #[.slice (some a) n c, .int .i64 t, .int .i64 r, .bool p] 29)).alloc (.cells #[.slice none 0 0, .int .i64 0, .int .i64 0, .bool false] 29)).cell? ⟨w.heap.size, 1, none⟩ = some (.int .i64 t) := ((G.refl (w.alloc (.cells #[.slice (some a) n c, .int .i64 t, .int .i64 r, .bool p] 29))).alloc (.cells #[.slice none 0 0, .int .i64 0, .int .i64 0, .bool false] 29)).cell ((World.cell?_alloc_at _ _ _ 1 rfl).trans rfl)
  have d2 : ((w.alloc (.cells #[.slice (some a) n c, .int .i64 t, .int .i64 r, .bool p] 29)).alloc (.cells #[.slice none 0 0, .int .i64 0, .int .i64 0, .bool false] 29)).cell? ⟨w.heap.size, 2, none⟩ = some (.int .i64 r) := ((G.refl (w.alloc (.cells #[.slice (some a) n c, .int .i64 t, .int .i64 r, .bool p] 29))).alloc (.cells #[.slice none 0 0, .int .i64 0, .int .i64 0, .bool false] 29)).cell ((World.cell?_alloc_at _ _ _ 2 rfl).trans rfl)
  have d3 : ((w.alloc (.cells #[.slice (some a) n c, .int .i64 t, .int .i64 r, .bool p] 29)).alloc (.cells #[.slice none 0 0, .int .i64 0, .int .i64 0, .bool false] 29)).cell? ⟨w.heap.size, 3, none⟩ = some (.bool p) := ((G.refl (w.alloc (.cells #[.slice (some a) n c, .int .i64 t, .int .i64 r, .bool p] 29))).alloc (.cells #[.slice none 0 0, .int .i64 0, .int .i64 0, .bool false] 29)).cell ((World.cell?_alloc_at _ _ _ 3 rfl).trans rfl)
  have KS := Lib.hid (l17Switch_any w.heap.size a n c t r p false L ((w.alloc (.cells #[.slice (some a) n c, .int .i64 t, .int .i64 r, .bool p] 29)).alloc (.cells #[.slice none 0 0, .int .i64 0, .int .i64 0, .bool false] 29)) (hr.G B0.out) hn hb hwf d0 d1 d2 d3)
  clear d0 d1 d2 d3
  have OR := Lib.hid (own_new (w := w.alloc (.cells #[.slice (some a) n c, .int .i64 t, .int .i64 r, .bool p] 29)) (base := w.heap.size) (n := 1) (cap := 1) (size := 4) (e := 29) (cur := #[.slice none 0 0, .int .i64 0, .int .i64 0, .bool false]) (by simp) (by decide) (by decide) rfl)
  rw [show (w.alloc (.cells #[.slice (some a) n c, .int .i64 t, .int .i64 r, .bool p] 29)).heap.size = w.heap.size + 1 by simp] at OR
  have l0 := (OR.out.lt (w.heap.size + 1) rfl).2
  clear hr hn hwf 
  obtain ⟨R, HR⟩ : ∃ R, Hid (swR L t r p false = R) := ⟨_, rfl⟩
  rw [HR.out] at KS ⊢
  unfold pV
  go_enter Try.func37, Try.ntmps37
  go_wp2_with fail
  refine KS.out.mono ?_
  rintro e w1 ⟨A', c', rfl, g1, ho⟩
  have HO := Lib.hid (ho.mono B0.out.size)
  have hlt := ho.lt
  have G1 := Lib.hid (B0.out.trans g1)
  have R1 := Lib.hid (own_G OR.out g1)
  obtain ⟨q1, HQ1⟩ : ∃ q, Hid (w.heap.size + 1 = q) := ⟨_, rfl⟩
  have b1 : w.heap.size ≤ q1 := by rw [← HQ1.out]; omega
  have m1 : (Value.slice A' R.L.length c').ownBlock = none ∨ (Value.slice A' R.L.length c').ownBlock ≠ some q1 := .inr (fun e => by have := (hlt q1 e).1; have := HQ1.out; omega)
  rw [HQ1.out] at R1
  clear g1 hlt ho OR B0
  rw [HQ1.out]
  have hr0 := own_cellAt_mid R1.out (j := 0) rfl
  have hz0 := own_frozen_of R1.out 0
  have hr1 := own_cellAt_mid R1.out (j := 1) rfl
  have hz1 := own_frozen_of R1.out 1
  have hr2 := own_cellAt_mid R1.out (j := 2) rfl
  have hz2 := own_frozen_of R1.out 2
  have hr3 := own_cellAt_mid R1.out (j := 3) rfl
  have hz3 := own_frozen_of R1.out 3
  dsimp only
  go_wp2
  have T0 := Lib.hid (R1.out.stored 0 ((.slice A' R.L.length c')))
  have Z0 := Lib.hid T0.out.2
  have T1 := Lib.hid (T0.out.1.stored 1 (.int .i64 R.t))
  have Z1 := Lib.hid (Gx.trans Z0.out T1.out.2)
  have T2 := Lib.hid (T1.out.1.stored 2 (.int .i64 R.r))
  have Z2 := Lib.hid (Gx.trans Z1.out T2.out.2)
  have T3 := Lib.hid (T2.out.1.stored 3 (.bool R.p))
  have Z3 := Lib.hid (Gx.trans Z2.out T3.out.2)
  have G2 := Lib.hid (Gx.G G1.out Z3.out (by intro i hi; cases hi; exact b1))
  have O2 := Lib.hid (own_Gx HO.out Z3.out m1)
  have k0 := own_cellAt_mid T3.out.1 (j := 0) rfl
  have k1 := own_cellAt_mid T3.out.1 (j := 1) rfl
  have k2 := own_cellAt_mid T3.out.1 (j := 2) rfl
  have k3 := own_cellAt_mid T3.out.1 (j := 3) rfl
  refine bodyPost_ret (v := .tuple #[pV A' R.L.length c' R.t R.r R.p, .int .i64 R.code]) (by simp [results, Try.results37, go_sem, k0, k1, k2, k3]) rfl ⟨A', c', rfl, G2.out, O2.out⟩

theorem swR_len (L : List SCue) {t r : Int} {p q : Bool} : (swR L t r p q).L.length ≤ L.length := by
  unfold swR noP
  split
  · simp
  · split <;> simp
end Go.Proofs.Ytdpmnmhblnjhiaa
