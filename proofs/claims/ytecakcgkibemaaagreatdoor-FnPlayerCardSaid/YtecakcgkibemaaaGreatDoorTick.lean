/-
  Walks: TickBy, by both texts.
-/
import Derived.Test.YtecakcgkibemaaaGreatDoorOwn
import Derived.Test.YtecakcgkibemaaaGreatDoorTickM
import Derived.Deep.RegionHeld3
import Derived.Deep.AppendLies
namespace Go.Proofs.YtecakcgkibemaaaGreatDoor
open Go.RowKit

theorem infoInt : (Tryz.prog.info? 2).map (fun i => (i.zero, i.size, i.bytes)) = some (some (.int .i64 0), 1, 8) := by kernel_rfl
theorem Gx.grown {g : Option Nat} {a b c : World} {row : Option Nat} (h : Gx g a b) (hg : b.grownBy c row) (hr : ∀ k, row = some k → a.heap.size ≤ k) : Gx g a c :=
  ⟨hg.os.trans h.os, hg.tape.trans h.tape, hg.output.trans h.output, Nat.le_trans h.size hg.size, fun i hi hn =>
    (hg.block i (Nat.lt_of_lt_of_le hi h.size) (fun e => by have := hr i e.symm; omega)).trans (h.block i hi hn)⟩
theorem Gx.alloc {g : Option Nat} {a b : World} (h : Gx g a b) (o : Obj) : Gx g a (b.alloc o) := Gx.trans h (Gx.of_G ((G.refl b).alloc o) g)

set_option maxRecDepth 20000 in
set_option maxHeartbeats 8000000 in
theorem iTickBy_any (a : Addr) (n c : Nat) (t r : Int) (p : Bool) (L : List SCue) (x : Int) (w : World) (hr : Rd w (some a) 6 cCue L) (hn : L.length = n) (hb : n ≤ 4194304) (hcap : n ≤ c) (hwf : ∀ x ∈ L, WfCue x) :
    Calls Tryz.prog 12 #[pV (some a) n c t r p, .int .i64 x] w (ResT w (tickR L t r p x)) := by
  obtain ⟨i0, hi, hz0, hz1, hz2⟩ := info_parts infoString
  have HI := Lib.hid (And.intro hi (And.intro hz0 (And.intro hz1 hz2)))
  clear hi hz0 hz1 hz2
  have B0 := Lib.hid (((G.refl w).alloc (.cells #[.slice (some a) n c, .int .i64 t, .int .i64 r, .bool p] 25)).alloc (.cells #[.slice none 0 0, .int .i64 0, .int .i64 0, .bool false] 25))
  have HWF := Lib.hid hwf
  have KV := Lib.hid (fun (W : World) (g : G w W) => iValidPlayer_any (some a) n c t r p L W (hr.G g) hn hb hcap hwf)
  have KC := Lib.hid (fun (W : World) (g : G w W) => cloneCue_any (some a) n c L W (hr.G g) hn hb)
  have K1 := Lib.hid (fun W => within_any x 0 600000 W)
  have OB := Lib.hid (own_G (own_new (w := w) (base := w.heap.size) (n := 1) (cap := 1) (size := 4) (e := 25) (cur := #[.slice (some a) n c, .int .i64 t, .int .i64 r, .bool p]) (Nat.le_refl _) (by decide) (by decide) rfl) ((G.refl _).alloc (.cells #[.slice none 0 0, .int .i64 0, .int .i64 0, .bool false] 25)))
  have OR := Lib.hid (own_new (w := w.alloc (.cells #[.slice (some a) n c, .int .i64 t, .int .i64 r, .bool p] 25)) (base := w.heap.size) (n := 1) (cap := 1) (size := 4) (e := 25) (cur := #[.slice none 0 0, .int .i64 0, .int .i64 0, .bool false]) (by simp) (by decide) (by decide) rfl)
  rw [show (w.alloc (.cells #[.slice (some a) n c, .int .i64 t, .int .i64 r, .bool p] 25)).heap.size = w.heap.size + 1 by simp] at OR
  have Hn := Lib.hid hn
  clear hr hn hwf hcap
  unfold pV
  cases hv : vplB L t r
  · have H := Lib.hid (show tickR L t r p x = (noP 1, []) by unfold tickR; rw [if_pos hv])
    have HV := Lib.hid hv
    clear hv
    go_enter Tryz.func12, Tryz.ntmps12
    go_wp2_with fail
    refine (KV.out _ B0.out).mono ?_
    rintro e w1 ⟨rfl, g1⟩
    have G1 := Lib.hid (B0.out.trans g1)
    have B1 := Lib.hid (own_G OB.out g1)
    have R1 := Lib.hid (own_G OR.out g1)
    obtain ⟨q0, HQ0⟩ : ∃ q, Hid (w.heap.size = q) := ⟨_, rfl⟩
    obtain ⟨q1, HQ1⟩ : ∃ q, Hid (w.heap.size + 1 = q) := ⟨_, rfl⟩
    have b0 : w.heap.size ≤ q0 := by rw [← HQ0.out]; exact Nat.le_refl _
    have b1 : w.heap.size ≤ q1 := by rw [← HQ1.out]; omega
    have n01 : q0 ≠ q1 := by rw [← HQ1.out, ← HQ0.out]; omega
    rw [HQ0.out] at B1
    rw [HQ1.out] at R1
    clear g1 B0 OB OR
    rw [HV.out, HQ1.out, HQ0.out]
    dsimp only
    have hr0 := own_cellAt_mid R1.out (j := 0) rfl
    have hz0 := own_frozen_of R1.out 0
    have hr1 := own_cellAt_mid R1.out (j := 1) rfl
    have hz1 := own_frozen_of R1.out 1
    have hr2 := own_cellAt_mid R1.out (j := 2) rfl
    have hz2 := own_frozen_of R1.out 2
    have hr3 := own_cellAt_mid R1.out (j := 3) rfl
    have hz3 := own_frozen_of R1.out 3
    go_wp2
    have T0 := Lib.hid (R1.out.stored 0 (.slice none 0 0))
    have Z0 := Lib.hid T0.out.2
    have T1 := Lib.hid (T0.out.1.stored 1 (.int .i64 0))
    have Z1 := Lib.hid (Gx.trans Z0.out T1.out.2)
    have T2 := Lib.hid (T1.out.1.stored 2 (.int .i64 0))
    have Z2 := Lib.hid (Gx.trans Z1.out T2.out.2)
    have T3 := Lib.hid (T2.out.1.stored 3 (.bool false))
    have Z3 := Lib.hid (Gx.trans Z2.out T3.out.2)
    have G2 := Lib.hid (Gx.G G1.out Z3.out (by intro i hi; cases hi; exact b1))
    have k0 := own_cellAt_mid T3.out.1 (j := 0) rfl
    have k1 := own_cellAt_mid T3.out.1 (j := 1) rfl
    have k2 := own_cellAt_mid T3.out.1 (j := 2) rfl
    have k3 := own_cellAt_mid T3.out.1 (j := 3) rfl
    refine bodyPost_ret (v := .tuple #[pV none 0 0 0 0 false, .slice none 0 0, .int .i64 1]) (by simp [results, Tryz.results12, go_sem, k0, k1, k2, k3]) rfl (resT_no H.out G2.out)
  have HF := Lib.hid (show tickR L t r p x = if inB x 0 600000 = false then (noP 2, []) else if p = false then (⟨L, t, r, false, 0⟩, []) else if endL L ≤ t + x * r / 1000 then (⟨L, endL L, r, false, 0⟩, idsB L t 7200001) else (⟨L, t + x * r / 1000, r, true, 0⟩, idsB L t (t + x * r / 1000)) by unfold tickR; rw [if_neg (by rw [hv]; simp)])
  have HV := Lib.hid hv
  obtain ⟨hvc, t0, t1, r0, r1, hend⟩ := vplB_bd hv
  have HVC := Lib.hid hvc
  have HE := Lib.hid (show showEnd L = (endL L, 0) by unfold showEnd; rw [hvc]; simp)
  clear hv hvc
  cases ht : inB x 0 600000
  · have H := Lib.hid (show tickR L t r p x = (noP 2, []) by rw [HF.out, if_pos ht])
    rw [ht] at K1
    clear ht HF
    go_enter Tryz.func12, Tryz.ntmps12
    go_wp2_with fail
    refine (KV.out _ B0.out).mono ?_
    rintro e w1 ⟨rfl, g1⟩
    have G1 := Lib.hid (B0.out.trans g1)
    have B1 := Lib.hid (own_G OB.out g1)
    have R1 := Lib.hid (own_G OR.out g1)
    obtain ⟨q0, HQ0⟩ : ∃ q, Hid (w.heap.size = q) := ⟨_, rfl⟩
    obtain ⟨q1, HQ1⟩ : ∃ q, Hid (w.heap.size + 1 = q) := ⟨_, rfl⟩
    have b0 : w.heap.size ≤ q0 := by rw [← HQ0.out]; exact Nat.le_refl _
    have b1 : w.heap.size ≤ q1 := by rw [← HQ1.out]; omega
    have n01 : q0 ≠ q1 := by rw [← HQ1.out, ← HQ0.out]; omega
    rw [HQ0.out] at B1
    rw [HQ1.out] at R1
    clear g1 B0 OB OR
    rw [HV.out, HQ1.out, HQ0.out]
    dsimp only
    have hr0 := own_cellAt_mid R1.out (j := 0) rfl
    have hz0 := own_frozen_of R1.out 0
    have hr1 := own_cellAt_mid R1.out (j := 1) rfl
    have hz1 := own_frozen_of R1.out 1
    have hr2 := own_cellAt_mid R1.out (j := 2) rfl
    have hz2 := own_frozen_of R1.out 2
    have hr3 := own_cellAt_mid R1.out (j := 3) rfl
    have hz3 := own_frozen_of R1.out 3
    go_wp2_with (go_at_call 28; (with_reducible refine (K1.out _).mono ?_); rintro e w2 ⟨rfl, rfl⟩; dsimp only)
    have T0 := Lib.hid (R1.out.stored 0 (.slice none 0 0))
    have Z0 := Lib.hid T0.out.2
    have T1 := Lib.hid (T0.out.1.stored 1 (.int .i64 0))
    have Z1 := Lib.hid (Gx.trans Z0.out T1.out.2)
    have T2 := Lib.hid (T1.out.1.stored 2 (.int .i64 0))
    have Z2 := Lib.hid (Gx.trans Z1.out T2.out.2)
    have T3 := Lib.hid (T2.out.1.stored 3 (.bool false))
    have Z3 := Lib.hid (Gx.trans Z2.out T3.out.2)
    have G2 := Lib.hid (Gx.G G1.out Z3.out (by intro i hi; cases hi; exact b1))
    have k0 := own_cellAt_mid T3.out.1 (j := 0) rfl
    have k1 := own_cellAt_mid T3.out.1 (j := 1) rfl
    have k2 := own_cellAt_mid T3.out.1 (j := 2) rfl
    have k3 := own_cellAt_mid T3.out.1 (j := 3) rfl
    refine bodyPost_ret (v := .tuple #[pV none 0 0 0 0 false, .slice none 0 0, .int .i64 2]) (by simp [results, Tryz.results12, go_sem, k0, k1, k2, k3]) rfl (resT_no H.out G2.out)
  obtain ⟨x0, x1⟩ := inB_iff.1 ht
  obtain ⟨y0, y1, z0, z1⟩ := tick_bd r0 r1 x0 x1
  replace HF := Lib.hid (show tickR L t r p x = if p = false then (⟨L, t, r, false, 0⟩, []) else if endL L ≤ t + x * r / 1000 then (⟨L, endL L, r, false, 0⟩, idsB L t 7200001) else (⟨L, t + x * r / 1000, r, true, 0⟩, idsB L t (t + x * r / 1000)) by rw [HF.out, if_neg (by rw [ht]; simp)])
  rw [ht] at K1
  clear ht
  obtain ⟨z, HZ⟩ : ∃ z, Hid (endL L = z) := ⟨_, rfl⟩
  cases p
  · have H := Lib.hid (show tickR L t r false x = (⟨L, t, r, false, 0⟩, []) by rw [HF.out, if_pos rfl])
    clear HF HZ
    go_enter Tryz.func12, Tryz.ntmps12
    go_wp2_with fail
    refine (KV.out _ B0.out).mono ?_
    rintro e w1 ⟨rfl, g1⟩
    have G1 := Lib.hid (B0.out.trans g1)
    have B1 := Lib.hid (own_G OB.out g1)
    have R1 := Lib.hid (own_G OR.out g1)
    obtain ⟨q0, HQ0⟩ : ∃ q, Hid (w.heap.size = q) := ⟨_, rfl⟩
    obtain ⟨q1, HQ1⟩ : ∃ q, Hid (w.heap.size + 1 = q) := ⟨_, rfl⟩
    have b0 : w.heap.size ≤ q0 := by rw [← HQ0.out]; exact Nat.le_refl _
    have b1 : w.heap.size ≤ q1 := by rw [← HQ1.out]; omega
    have n01 : q0 ≠ q1 := by rw [← HQ1.out, ← HQ0.out]; omega
    rw [HQ0.out] at B1
    rw [HQ1.out] at R1
    clear g1 B0 OB OR
    rw [HV.out, HQ1.out, HQ0.out]
    dsimp only
    have hc0 := own_cellAt_mid B1.out (j := 0) rfl
    have hy0 := own_frozen_of B1.out 0
    have hc1 := own_cellAt_mid B1.out (j := 1) rfl
    have hy1 := own_frozen_of B1.out 1
    have hc2 := own_cellAt_mid B1.out (j := 2) rfl
    have hy2 := own_frozen_of B1.out 2
    have hc3 := own_cellAt_mid B1.out (j := 3) rfl
    have hy3 := own_frozen_of B1.out 3
    go_wp2_with (go_at_call 28; (with_reducible refine (K1.out _).mono ?_); rintro e w2 ⟨rfl, rfl⟩; dsimp only)
    refine (KC.out _ G1.out).mono ?_
    rintro e w2 ⟨v, rfl, ho, g2⟩
    obtain ⟨A2, c2, rfl⟩ := own_val ho
    have HO := Lib.hid (ho.mono G1.out.size)
    have hlt := ho.lt
    have G2 := Lib.hid (G1.out.trans g2)
    have B2 := Lib.hid (own_G B1.out g2)
    have R2 := Lib.hid (own_G R1.out g2)
    have l0 := (B1.out.lt q0 rfl).2
    have l1 := (R1.out.lt q1 rfl).2
    have m0 : (Value.slice A2 L.length c2).ownBlock = none ∨ (Value.slice A2 L.length c2).ownBlock ≠ some q0 := .inr (fun e => by have := (hlt q0 e).1; omega)
    have m1 : (Value.slice A2 L.length c2).ownBlock = none ∨ (Value.slice A2 L.length c2).ownBlock ≠ some q1 := .inr (fun e => by have := (hlt q1 e).1; omega)
    clear hlt ho g2 B1 R1 hc0 hy0 hc1 hy1 hc2 hy2 hc3 hy3
    have hc0 := own_cellAt_mid B2.out (j := 0) rfl
    have hy0 := own_frozen_of B2.out 0
    have hc1 := own_cellAt_mid B2.out (j := 1) rfl
    have hy1 := own_frozen_of B2.out 1
    have hc2 := own_cellAt_mid B2.out (j := 2) rfl
    have hy2 := own_frozen_of B2.out 2
    have hc3 := own_cellAt_mid B2.out (j := 3) rfl
    have hy3 := own_frozen_of B2.out 3
    have hr0 := own_cellAt_mid R2.out (j := 0) rfl
    have hz0 := own_frozen_of R2.out 0
    have hr1 := own_cellAt_mid R2.out (j := 1) rfl
    have hz1 := own_frozen_of R2.out 1
    have hr2 := own_cellAt_mid R2.out (j := 2) rfl
    have hz2 := own_frozen_of R2.out 2
    have hr3 := own_cellAt_mid R2.out (j := 3) rfl
    have hz3 := own_frozen_of R2.out 3
    dsimp only
    go_wp2
    have S0 := Lib.hid (B2.out.stored 0 (.slice A2 L.length c2))
    have Y0 := Lib.hid S0.out.2
    have R3 := Lib.hid (own_Gx R2.out Y0.out (.inr (by simp [Value.ownBlock]; omega)))
    have T0 := Lib.hid (R3.out.stored 0 (.slice A2 L.length c2))
    have Z0 := Lib.hid T0.out.2
    have T1 := Lib.hid (T0.out.1.stored 1 (.int .i64 t))
    have Z1 := Lib.hid (Gx.trans Z0.out T1.out.2)
    have T2 := Lib.hid (T1.out.1.stored 2 (.int .i64 r))
    have Z2 := Lib.hid (Gx.trans Z1.out T2.out.2)
    have T3 := Lib.hid (T2.out.1.stored 3 (.bool false))
    have Z3 := Lib.hid (Gx.trans Z2.out T3.out.2)
    have G3 := Lib.hid (Gx.G (Gx.G G2.out Y0.out (by intro i hi; cases hi; exact b0)) Z3.out (by intro i hi; cases hi; exact b1))
    have O3 := Lib.hid (own_Gx (own_Gx HO.out Y0.out m0) Z3.out m1)
    have k0 := own_cellAt_mid T3.out.1 (j := 0) rfl
    have k1 := own_cellAt_mid T3.out.1 (j := 1) rfl
    have k2 := own_cellAt_mid T3.out.1 (j := 2) rfl
    have k3 := own_cellAt_mid T3.out.1 (j := 3) rfl
    refine bodyPost_ret (v := .tuple #[pV A2 L.length c2 t r false, .slice none 0 0, .int .i64 0]) (by simp [results, Tryz.results12, go_sem, k0, k1, k2, k3]) rfl ?_
    rw [H.out]
    exact ⟨A2, c2, none, 0, rfl, G3.out, O3.out, World.ownsRow_nil _ _ _ _, fun a b _ h => by simp at h⟩
  replace HF := Lib.hid (show tickR L t r true x = if endL L ≤ t + x * r / 1000 then (⟨L, endL L, r, false, 0⟩, idsB L t 7200001) else (⟨L, t + x * r / 1000, r, true, 0⟩, idsB L t (t + x * r / 1000)) by rw [HF.out, if_neg (by simp)])
  obtain ⟨u, HU⟩ : ∃ u, Hid (t + x * r / 1000 = u) := ⟨_, rfl⟩
  have hu0 : 0 ≤ u := by rw [← HU.out]; omega
  have hu1 : u ≤ 9600000 := by rw [← HU.out]; omega
  have hw1 : IntKind.i64.wrap (x * r) = x * r := IntWalk.i64_in _ (by omega)
  have hw2 : (x * r).tdiv 1000 = x * r / 1000 := by rw [Int.tdiv_eq_ediv_of_nonneg y0]
  have hw3 : IntKind.i64.wrap (x * r / 1000) = x * r / 1000 := IntWalk.i64_in _ (by omega)
  have hw4 : IntKind.i64.wrap (t + x * r / 1000) = u := (IntWalk.i64_in _ (by omega)).trans HU.out
  have HW := Lib.hid (And.intro hw1 (And.intro hw2 (And.intro hw3 hw4)))
  clear hw1 hw2 hw3 hw4 y0 y1 z0 z1
  by_cases hov : z ≤ u
  · have H := Lib.hid (show tickR L t r true x = (⟨L, z, r, false, 0⟩, idsB L t 7200001) by rw [HF.out, HZ.out, HU.out, if_pos hov])
    go_enter Tryz.func12, Tryz.ntmps12
    go_wp2_with fail
    refine (KV.out _ B0.out).mono ?_
    rintro e w1 ⟨rfl, g1⟩
    have G1 := Lib.hid (B0.out.trans g1)
    have B1 := Lib.hid (own_G OB.out g1)
    have R1 := Lib.hid (own_G OR.out g1)
    obtain ⟨q0, HQ0⟩ : ∃ q, Hid (w.heap.size = q) := ⟨_, rfl⟩
    obtain ⟨q1, HQ1⟩ : ∃ q, Hid (w.heap.size + 1 = q) := ⟨_, rfl⟩
    have b0 : w.heap.size ≤ q0 := by rw [← HQ0.out]; exact Nat.le_refl _
    have b1 : w.heap.size ≤ q1 := by rw [← HQ1.out]; omega
    have n01 : q0 ≠ q1 := by rw [← HQ1.out, ← HQ0.out]; omega
    rw [HQ0.out] at B1
    rw [HQ1.out] at R1
    clear g1 B0 OB OR
    rw [HV.out, HQ1.out, HQ0.out]
    dsimp only
    have hc0 := own_cellAt_mid B1.out (j := 0) rfl
    have hy0 := own_frozen_of B1.out 0
    have hc1 := own_cellAt_mid B1.out (j := 1) rfl
    have hy1 := own_frozen_of B1.out 1
    have hc2 := own_cellAt_mid B1.out (j := 2) rfl
    have hy2 := own_frozen_of B1.out 2
    have hc3 := own_cellAt_mid B1.out (j := 3) rfl
    have hy3 := own_frozen_of B1.out 3
    go_wp2_with (go_at_call 28; (with_reducible refine (K1.out _).mono ?_); rintro e w2 ⟨rfl, rfl⟩; dsimp only)
    refine (KC.out _ G1.out).mono ?_
    rintro e w2 ⟨v, rfl, ho, g2⟩
    obtain ⟨A2, c2, rfl⟩ := own_val ho
    have HO := Lib.hid (ho.mono G1.out.size)
    have hlt := ho.lt
    have G2 := Lib.hid (G1.out.trans g2)
    have B2 := Lib.hid (own_G B1.out g2)
    have R2 := Lib.hid (own_G R1.out g2)
    have l0 := (B1.out.lt q0 rfl).2
    have l1 := (R1.out.lt q1 rfl).2
    have m0 : (Value.slice A2 L.length c2).ownBlock = none ∨ (Value.slice A2 L.length c2).ownBlock ≠ some q0 := .inr (fun e => by have := (hlt q0 e).1; omega)
    have m1 : (Value.slice A2 L.length c2).ownBlock = none ∨ (Value.slice A2 L.length c2).ownBlock ≠ some q1 := .inr (fun e => by have := (hlt q1 e).1; omega)
    clear hlt ho g2 B1 R1 hc0 hy0 hc1 hy1 hc2 hy2 hc3 hy3
    have hc0 := own_cellAt_mid B2.out (j := 0) rfl
    have hy0 := own_frozen_of B2.out 0
    have hc1 := own_cellAt_mid B2.out (j := 1) rfl
    have hy1 := own_frozen_of B2.out 1
    have hc2 := own_cellAt_mid B2.out (j := 2) rfl
    have hy2 := own_frozen_of B2.out 2
    have hc3 := own_cellAt_mid B2.out (j := 3) rfl
    have hy3 := own_frozen_of B2.out 3
    dsimp only
    go_wp2_with fail
    have S0 := Lib.hid (B2.out.stored 0 (.slice A2 L.length c2))
    have Y0 := Lib.hid S0.out.2
    have R3 := Lib.hid (own_Gx R2.out Y0.out (.inr (by simp [Value.ownBlock]; omega)))
    have O3 := Lib.hid (own_Gx HO.out Y0.out m0)
    have G3 := Lib.hid (Gx.G G2.out Y0.out (by intro i hi; cases hi; exact b0))
    have hL : L.length ≤ 4194304 := by rw [Hn.out]; exact hb
    refine (ShowEnd_any A2 L.length c2 L _ (rd_own (by decide) cCue_len O3.out) rfl hL (own_cap O3.out).1 HWF.out).mono ?_
    rintro e w3 ⟨rfl, g3⟩
    have B3 := Lib.hid (own_G S0.out.1 g3)
    replace R3 := Lib.hid (own_G R3.out g3)
    replace O3 := Lib.hid (own_G O3.out g3)
    replace G3 := Lib.hid (G3.out.trans g3)
    clear g3 B2 R2 S0 Y0 HO hc0 hy0 hc1 hy1 hc2 hy2 hc3 hy3
    have hc0 := own_cellAt_mid B3.out (j := 0) rfl
    have hy0 := own_frozen_of B3.out 0
    have hc1 := own_cellAt_mid B3.out (j := 1) rfl
    have hy1 := own_frozen_of B3.out 1
    have hc2 := own_cellAt_mid B3.out (j := 2) rfl
    have hy2 := own_frozen_of B3.out 2
    have hc3 := own_cellAt_mid B3.out (j := 3) rfl
    have hy3 := own_frozen_of B3.out 3
    have gc1 := cellR hc1
    have gc2 := cellR hc2
    rw [HE.out, HZ.out]
    dsimp only
    go_wp2
    obtain ⟨hw1, hw2, hw3, hw4⟩ := HW.out
    refine region_quiet_G (by kernel_rfl) (by kernel_rfl) ?_; (repeat (go_big_quiet_step ((fail)))); refine wpQuiet_nil ?_
    clear hw1 hw2 hw3 hw4
    intro w4 g4
    have B4 := Lib.hid (own_G B3.out g4)
    have R4 := Lib.hid (own_G R3.out g4)
    have O4 := Lib.hid (own_G O3.out g4)
    have G4 := Lib.hid (G3.out.trans g4)
    have l4 := (B4.out.lt q0 rfl).2
    have l5 := (R4.out.lt q1 rfl).2
    clear g4 B3 R3 O3 G3 gc1 gc2 hc0 hy0 hc1 hy1 hc2 hy2 hc3 hy3
    have hc0 := own_cellAt_mid B4.out (j := 0) rfl
    have hy0 := own_frozen_of B4.out 0
    have hc1 := own_cellAt_mid B4.out (j := 1) rfl
    have hy1 := own_frozen_of B4.out 1
    have hc2 := own_cellAt_mid B4.out (j := 2) rfl
    have hy2 := own_frozen_of B4.out 2
    have hc3 := own_cellAt_mid B4.out (j := 3) rfl
    have hy3 := own_frozen_of B4.out 3
    go_wp2
    have SA := Lib.hid (B4.out.stored 1 (.int .i64 u))
    have YA := Lib.hid SA.out.2
    have SB := Lib.hid (SA.out.1.stored 1 (.int .i64 z))
    have YB := Lib.hid (Gx.trans YA.out SB.out.2)
    have SC := Lib.hid (SB.out.1.stored 3 (.bool false))
    have YC := Lib.hid (Gx.trans YB.out SC.out.2)
    clear hu0 hu1 x0 x1 hL
    go_loopw [11, 57] (fun v i wr => ∃ (k m : Nat), k ≤ L.length ∧ i = .int .i64 k ∧ m ≤ k ∧ Hid ((idsB (L.take k) t 7200001).length = m) ∧ Hid (wr.ownsRow w4.heap.size 9 1 v m ((idsB (L.take k) t 7200001).flatMap sv)) ∧ Hid (Gx (some q0) w4 wr) ∧ Hid (wr.ownsRow q0 25 4 (.slice (some ⟨q0, 0, none⟩) 1 1) 1 [.slice A2 L.length c2, .int .i64 z, .int .i64 r, .bool false])) (fun _ i _ => L.length - (intOf i).toNat)
    case atStart => exact ⟨0, 0, Nat.zero_le _, rfl, Nat.le_refl _, Lib.hid rfl, Lib.hid (World.ownsRow_nil _ _ _ _), YC, Lib.hid SC.out.1⟩
    case round =>
      obtain ⟨k, m, hk, rfl, hmk, HM, HO1, GX, BX⟩ := hrel
      have hsz : w4.heap.size ≤ wr.heap.size := World.grownBy.size GX.out
      have O5 := Lib.hid (own_Gx O4.out GX.out m0)
      have hn32 : L.length ≤ 32 := vcus_len HVC.out
      by_cases hlt : k < L.length
      · obtain ⟨b1', o1, x, rfl, hx, hd0, hd1, hd2, hd3, hd4, hd5⟩ := (rd_own (by decide) cCue_len O5.out).Cue (k := k) hlt
        have HX := Lib.hid hx
        clear hx
        by_cases h1 : t ≤ x.Time
        · by_cases h2 : x.Time < 7200001
          · have HS2 := Lib.hid (idsB_yes HX.out (show inT t 7200001 x = true by unfold inT; simp [h1, h2]))
            go_wp2_with (at_builtin; refine wpList_append_own _ rfl (.tmp 71) (.tmp 74) 36 rfl w4.heap.size 9 i0 (.string ⟨#[]⟩) 1 16 Tryz.underlying36 HI.out.1 HI.out.2.1 HI.out.2.2.1 HI.out.2.2.2 rfl (by decide) _ m _ rfl ((HO1.out.alloc _).alloc _) ⟨wr.heap.size + 1, 0, none⟩ 1 1 [.string x.Id] rfl rfl ?c4 (str_oneCell x.Id) ?c1 ?c2 ?c3 ?_)
            case c1 => unfold maxLen; omega
            case c2 => omega
            case c3 => first | omega | (simp; omega)
            case c4 => exact (by have := block_news (wr.alloc (.cells #[.string x.Id, .int .i64 x.Time, .int .i64 x.Length, .string x.Target, .int .i64 x.Action, .int .i64 x.Value] 49)) [.string x.Id] 9; simpa using this)
            intro v' w5 hown hgrow _
            have HO2 := Lib.hid (show w5.ownsRow w4.heap.size 9 1 v' (m + 1) ((idsB (L.take (k + 1)) t 7200001).flatMap sv) by rw [HS2.out, List.flatMap_append]; simpa [sv] using hown)
            have G2 := Lib.hid (Gx.grown ((GX.out.alloc _).alloc _) hgrow (own_block_of HO1.out))
            have B2 := Lib.hid (((BX.out.alloc _).alloc _).kept hgrow (.inr (fun e => by have := (HO1.out.lt q0 e.symm).1; omega)))
            clear hown hgrow
            go_wp2
            go_roundw
            case rel => exact ⟨k + 1, m + 1, by omega, by go_num, by omega, Lib.hid (by rw [HS2.out, List.length_append, HM.out]; rfl), HO2, G2, B2⟩
            case measure => simp [intOf]; omega
          · skip
            have HS2 := Lib.hid (idsB_no HX.out (show inT t 7200001 x = false by unfold inT; simp [h1, h2]))
            have h3 : t ≤ x.Time ∧ 7200001 ≤ x.Time := by omega
            obtain ⟨_, h3⟩ := h3
            clear h2
            go_wp2
            go_roundw
            case rel => exact ⟨k + 1, m, by omega, by go_num, by omega, Lib.hid (by rw [HS2.out]; exact HM.out), Lib.hid (by rw [HS2.out]; exact HO1.out.alloc _), Lib.hid (GX.out.alloc _), Lib.hid (BX.out.alloc _)⟩
            case measure => simp [intOf]; omega
        · skip
          have HS2 := Lib.hid (idsB_no HX.out (show inT t 7200001 x = false by unfold inT; simp [h1]))
          have h3 : x.Time < t := by omega
          skip
          clear h1
          go_wp2
          go_roundw
          case rel => exact ⟨k + 1, m, by omega, by go_num, by omega, Lib.hid (by rw [HS2.out]; exact HM.out), Lib.hid (by rw [HS2.out]; exact HO1.out.alloc _), Lib.hid (GX.out.alloc _), Lib.hid (BX.out.alloc _)⟩
          case measure => simp [intOf]; omega
      · have HTK := Lib.hid (show L.take k = L from List.take_of_length_le (by omega))
        have hm := HM.out
        rw [HTK.out] at HO1 hm
        subst hm
        obtain ⟨A3, c3, rfl⟩ := own_val HO1.out
        have R5 := Lib.hid (own_Gx R4.out GX.out (.inr (by simp [Value.ownBlock]; omega)))
        have D3 := Lib.hid (show ∀ a b, A2 = some a → A3 = some b → a.block ≠ b.block from fun a b ha hb => by have h1 := (O4.out.lt a.block (by rw [ha]; rfl)).2; have h2 := (HO1.out.lt b.block (by rw [hb]; rfl)).1; omega)
        have m3 : (Value.slice A3 (idsB L t 7200001).length c3).ownBlock = none ∨ (Value.slice A3 (idsB L t 7200001).length c3).ownBlock ≠ some q1 := .inr (fun e => by have := (HO1.out.lt q1 e).1; omega)
        have he0 := own_cellAt_mid BX.out (j := 0) rfl
        have hf0 := own_frozen_of BX.out 0
        have he1 := own_cellAt_mid BX.out (j := 1) rfl
        have hf1 := own_frozen_of BX.out 1
        have he2 := own_cellAt_mid BX.out (j := 2) rfl
        have hf2 := own_frozen_of BX.out 2
        have he3 := own_cellAt_mid BX.out (j := 3) rfl
        have hf3 := own_frozen_of BX.out 3
        have hr0 := own_cellAt_mid R5.out (j := 0) rfl
        have hz0 := own_frozen_of R5.out 0
        have hr1 := own_cellAt_mid R5.out (j := 1) rfl
        have hz1 := own_frozen_of R5.out 1
        have hr2 := own_cellAt_mid R5.out (j := 2) rfl
        have hz2 := own_frozen_of R5.out 2
        have hr3 := own_cellAt_mid R5.out (j := 3) rfl
        have hz3 := own_frozen_of R5.out 3
        go_wp2
        have T0 := Lib.hid (R5.out.stored 0 (.slice A2 L.length c2))
        have Z0 := Lib.hid T0.out.2
        have T1 := Lib.hid (T0.out.1.stored 1 (.int .i64 z))
        have Z1 := Lib.hid (Gx.trans Z0.out T1.out.2)
        have T2 := Lib.hid (T1.out.1.stored 2 (.int .i64 r))
        have Z2 := Lib.hid (Gx.trans Z1.out T2.out.2)
        have T3 := Lib.hid (T2.out.1.stored 3 (.bool false))
        have Z3 := Lib.hid (Gx.trans Z2.out T3.out.2)
        have G5 := Lib.hid (Gx.G (Gx.G G4.out GX.out (by intro i hi; cases hi; exact b0)) Z3.out (by intro i hi; cases hi; exact b1))
        have O6 := Lib.hid (own_Gx O5.out Z3.out m1)
        have O7 := Lib.hid (own_Gx HO1.out Z3.out m3)
        have k0 := own_cellAt_mid T3.out.1 (j := 0) rfl
        have k1 := own_cellAt_mid T3.out.1 (j := 1) rfl
        have k2 := own_cellAt_mid T3.out.1 (j := 2) rfl
        have k3 := own_cellAt_mid T3.out.1 (j := 3) rfl
        refine bodyPost_ret (v := .tuple #[pV A2 L.length c2 z r false, .slice A3 (idsB L t 7200001).length c3, .int .i64 0]) (by simp [results, Tryz.results12, go_sem, k0, k1, k2, k3]) rfl ?_
        rw [H.out]
        exact ⟨A2, c2, A3, c3, rfl, G5.out, O6.out, O7.out.mono G4.out.size, D3.out⟩
  have H := Lib.hid (show tickR L t r true x = (⟨L, u, r, true, 0⟩, idsB L t u) by rw [HF.out, HZ.out, HU.out, if_neg hov])
  replace hov : u < z := by omega
  go_enter Tryz.func12, Tryz.ntmps12
  go_wp2_with fail
  refine (KV.out _ B0.out).mono ?_
  rintro e w1 ⟨rfl, g1⟩
  have G1 := Lib.hid (B0.out.trans g1)
  have B1 := Lib.hid (own_G OB.out g1)
  have R1 := Lib.hid (own_G OR.out g1)
  obtain ⟨q0, HQ0⟩ : ∃ q, Hid (w.heap.size = q) := ⟨_, rfl⟩
  obtain ⟨q1, HQ1⟩ : ∃ q, Hid (w.heap.size + 1 = q) := ⟨_, rfl⟩
  have b0 : w.heap.size ≤ q0 := by rw [← HQ0.out]; exact Nat.le_refl _
  have b1 : w.heap.size ≤ q1 := by rw [← HQ1.out]; omega
  have n01 : q0 ≠ q1 := by rw [← HQ1.out, ← HQ0.out]; omega
  rw [HQ0.out] at B1
  rw [HQ1.out] at R1
  clear g1 B0 OB OR
  rw [HV.out, HQ1.out, HQ0.out]
  dsimp only
  have hc0 := own_cellAt_mid B1.out (j := 0) rfl
  have hy0 := own_frozen_of B1.out 0
  have hc1 := own_cellAt_mid B1.out (j := 1) rfl
  have hy1 := own_frozen_of B1.out 1
  have hc2 := own_cellAt_mid B1.out (j := 2) rfl
  have hy2 := own_frozen_of B1.out 2
  have hc3 := own_cellAt_mid B1.out (j := 3) rfl
  have hy3 := own_frozen_of B1.out 3
  go_wp2_with (go_at_call 28; (with_reducible refine (K1.out _).mono ?_); rintro e w2 ⟨rfl, rfl⟩; dsimp only)
  refine (KC.out _ G1.out).mono ?_
  rintro e w2 ⟨v, rfl, ho, g2⟩
  obtain ⟨A2, c2, rfl⟩ := own_val ho
  have HO := Lib.hid (ho.mono G1.out.size)
  have hlt := ho.lt
  have G2 := Lib.hid (G1.out.trans g2)
  have B2 := Lib.hid (own_G B1.out g2)
  have R2 := Lib.hid (own_G R1.out g2)
  have l0 := (B1.out.lt q0 rfl).2
  have l1 := (R1.out.lt q1 rfl).2
  have m0 : (Value.slice A2 L.length c2).ownBlock = none ∨ (Value.slice A2 L.length c2).ownBlock ≠ some q0 := .inr (fun e => by have := (hlt q0 e).1; omega)
  have m1 : (Value.slice A2 L.length c2).ownBlock = none ∨ (Value.slice A2 L.length c2).ownBlock ≠ some q1 := .inr (fun e => by have := (hlt q1 e).1; omega)
  clear hlt ho g2 B1 R1 hc0 hy0 hc1 hy1 hc2 hy2 hc3 hy3
  have hc0 := own_cellAt_mid B2.out (j := 0) rfl
  have hy0 := own_frozen_of B2.out 0
  have hc1 := own_cellAt_mid B2.out (j := 1) rfl
  have hy1 := own_frozen_of B2.out 1
  have hc2 := own_cellAt_mid B2.out (j := 2) rfl
  have hy2 := own_frozen_of B2.out 2
  have hc3 := own_cellAt_mid B2.out (j := 3) rfl
  have hy3 := own_frozen_of B2.out 3
  dsimp only
  go_wp2_with fail
  have S0 := Lib.hid (B2.out.stored 0 (.slice A2 L.length c2))
  have Y0 := Lib.hid S0.out.2
  have R3 := Lib.hid (own_Gx R2.out Y0.out (.inr (by simp [Value.ownBlock]; omega)))
  have O3 := Lib.hid (own_Gx HO.out Y0.out m0)
  have G3 := Lib.hid (Gx.G G2.out Y0.out (by intro i hi; cases hi; exact b0))
  have hL : L.length ≤ 4194304 := by rw [Hn.out]; exact hb
  refine (ShowEnd_any A2 L.length c2 L _ (rd_own (by decide) cCue_len O3.out) rfl hL (own_cap O3.out).1 HWF.out).mono ?_
  rintro e w3 ⟨rfl, g3⟩
  have B3 := Lib.hid (own_G S0.out.1 g3)
  replace R3 := Lib.hid (own_G R3.out g3)
  replace O3 := Lib.hid (own_G O3.out g3)
  replace G3 := Lib.hid (G3.out.trans g3)
  clear g3 B2 R2 S0 Y0 HO hc0 hy0 hc1 hy1 hc2 hy2 hc3 hy3
  have hc0 := own_cellAt_mid B3.out (j := 0) rfl
  have hy0 := own_frozen_of B3.out 0
  have hc1 := own_cellAt_mid B3.out (j := 1) rfl
  have hy1 := own_frozen_of B3.out 1
  have hc2 := own_cellAt_mid B3.out (j := 2) rfl
  have hy2 := own_frozen_of B3.out 2
  have hc3 := own_cellAt_mid B3.out (j := 3) rfl
  have hy3 := own_frozen_of B3.out 3
  have gc1 := cellR hc1
  have gc2 := cellR hc2
  rw [HE.out, HZ.out]
  dsimp only
  go_wp2
  obtain ⟨hw1, hw2, hw3, hw4⟩ := HW.out
  refine region_quiet_G (by kernel_rfl) (by kernel_rfl) ?_; (repeat (go_big_quiet_step ((fail)))); refine wpQuiet_nil ?_
  clear hw1 hw2 hw3 hw4
  intro w4 g4
  have B4 := Lib.hid (own_G B3.out g4)
  have R4 := Lib.hid (own_G R3.out g4)
  have O4 := Lib.hid (own_G O3.out g4)
  have G4 := Lib.hid (G3.out.trans g4)
  have l4 := (B4.out.lt q0 rfl).2
  have l5 := (R4.out.lt q1 rfl).2
  clear g4 B3 R3 O3 G3 gc1 gc2 hc0 hy0 hc1 hy1 hc2 hy2 hc3 hy3
  have hc0 := own_cellAt_mid B4.out (j := 0) rfl
  have hy0 := own_frozen_of B4.out 0
  have hc1 := own_cellAt_mid B4.out (j := 1) rfl
  have hy1 := own_frozen_of B4.out 1
  have hc2 := own_cellAt_mid B4.out (j := 2) rfl
  have hy2 := own_frozen_of B4.out 2
  have hc3 := own_cellAt_mid B4.out (j := 3) rfl
  have hy3 := own_frozen_of B4.out 3
  go_wp2
  have SA := Lib.hid (B4.out.stored 1 (.int .i64 u))
  have YA := Lib.hid SA.out.2
  clear hu0 hu1 x0 x1 hL
  go_loopw [11, 57] (fun v i wr => ∃ (k m : Nat), k ≤ L.length ∧ i = .int .i64 k ∧ m ≤ k ∧ Hid ((idsB (L.take k) t u).length = m) ∧ Hid (wr.ownsRow w4.heap.size 9 1 v m ((idsB (L.take k) t u).flatMap sv)) ∧ Hid (Gx (some q0) w4 wr) ∧ Hid (wr.ownsRow q0 25 4 (.slice (some ⟨q0, 0, none⟩) 1 1) 1 [.slice A2 L.length c2, .int .i64 u, .int .i64 r, .bool true])) (fun _ i _ => L.length - (intOf i).toNat)
  case atStart => exact ⟨0, 0, Nat.zero_le _, rfl, Nat.le_refl _, Lib.hid rfl, Lib.hid (World.ownsRow_nil _ _ _ _), YA, Lib.hid SA.out.1⟩
  case round =>
    obtain ⟨k, m, hk, rfl, hmk, HM, HO1, GX, BX⟩ := hrel
    have hsz : w4.heap.size ≤ wr.heap.size := World.grownBy.size GX.out
    have O5 := Lib.hid (own_Gx O4.out GX.out m0)
    have hn32 : L.length ≤ 32 := vcus_len HVC.out
    by_cases hlt : k < L.length
    · obtain ⟨b1', o1, x, rfl, hx, hd0, hd1, hd2, hd3, hd4, hd5⟩ := (rd_own (by decide) cCue_len O5.out).Cue (k := k) hlt
      have HX := Lib.hid hx
      clear hx
      by_cases h1 : t ≤ x.Time
      · by_cases h2 : x.Time < u
        · have HS2 := Lib.hid (idsB_yes HX.out (show inT t u x = true by unfold inT; simp [h1, h2]))
          go_wp2_with (at_builtin; refine wpList_append_own _ rfl (.tmp 71) (.tmp 74) 36 rfl w4.heap.size 9 i0 (.string ⟨#[]⟩) 1 16 Tryz.underlying36 HI.out.1 HI.out.2.1 HI.out.2.2.1 HI.out.2.2.2 rfl (by decide) _ m _ rfl ((HO1.out.alloc _).alloc _) ⟨wr.heap.size + 1, 0, none⟩ 1 1 [.string x.Id] rfl rfl ?c4 (str_oneCell x.Id) ?c1 ?c2 ?c3 ?_)
          case c1 => unfold maxLen; omega
          case c2 => omega
          case c3 => first | omega | (simp; omega)
          case c4 => exact (by have := block_news (wr.alloc (.cells #[.string x.Id, .int .i64 x.Time, .int .i64 x.Length, .string x.Target, .int .i64 x.Action, .int .i64 x.Value] 49)) [.string x.Id] 9; simpa using this)
          intro v' w5 hown hgrow _
          have HO2 := Lib.hid (show w5.ownsRow w4.heap.size 9 1 v' (m + 1) ((idsB (L.take (k + 1)) t u).flatMap sv) by rw [HS2.out, List.flatMap_append]; simpa [sv] using hown)
          have G2 := Lib.hid (Gx.grown ((GX.out.alloc _).alloc _) hgrow (own_block_of HO1.out))
          have B2 := Lib.hid (((BX.out.alloc _).alloc _).kept hgrow (.inr (fun e => by have := (HO1.out.lt q0 e.symm).1; omega)))
          clear hown hgrow
          go_wp2
          go_roundw
          case rel => exact ⟨k + 1, m + 1, by omega, by go_num, by omega, Lib.hid (by rw [HS2.out, List.length_append, HM.out]; rfl), HO2, G2, B2⟩
          case measure => simp [intOf]; omega
        · skip
          have HS2 := Lib.hid (idsB_no HX.out (show inT t u x = false by unfold inT; simp [h1, h2]))
          have h3 : t ≤ x.Time ∧ u ≤ x.Time := by omega
          obtain ⟨_, h3⟩ := h3
          clear h2
          go_wp2
          go_roundw
          case rel => exact ⟨k + 1, m, by omega, by go_num, by omega, Lib.hid (by rw [HS2.out]; exact HM.out), Lib.hid (by rw [HS2.out]; exact HO1.out.alloc _), Lib.hid (GX.out.alloc _), Lib.hid (BX.out.alloc _)⟩
          case measure => simp [intOf]; omega
      · skip
        have HS2 := Lib.hid (idsB_no HX.out (show inT t u x = false by unfold inT; simp [h1]))
        have h3 : x.Time < t := by omega
        skip
        clear h1
        go_wp2
        go_roundw
        case rel => exact ⟨k + 1, m, by omega, by go_num, by omega, Lib.hid (by rw [HS2.out]; exact HM.out), Lib.hid (by rw [HS2.out]; exact HO1.out.alloc _), Lib.hid (GX.out.alloc _), Lib.hid (BX.out.alloc _)⟩
        case measure => simp [intOf]; omega
    · have HTK := Lib.hid (show L.take k = L from List.take_of_length_le (by omega))
      have hm := HM.out
      rw [HTK.out] at HO1 hm
      subst hm
      obtain ⟨A3, c3, rfl⟩ := own_val HO1.out
      have R5 := Lib.hid (own_Gx R4.out GX.out (.inr (by simp [Value.ownBlock]; omega)))
      have D3 := Lib.hid (show ∀ a b, A2 = some a → A3 = some b → a.block ≠ b.block from fun a b ha hb => by have h1 := (O4.out.lt a.block (by rw [ha]; rfl)).2; have h2 := (HO1.out.lt b.block (by rw [hb]; rfl)).1; omega)
      have m3 : (Value.slice A3 (idsB L t u).length c3).ownBlock = none ∨ (Value.slice A3 (idsB L t u).length c3).ownBlock ≠ some q1 := .inr (fun e => by have := (HO1.out.lt q1 e).1; omega)
      have he0 := own_cellAt_mid BX.out (j := 0) rfl
      have hf0 := own_frozen_of BX.out 0
      have he1 := own_cellAt_mid BX.out (j := 1) rfl
      have hf1 := own_frozen_of BX.out 1
      have he2 := own_cellAt_mid BX.out (j := 2) rfl
      have hf2 := own_frozen_of BX.out 2
      have he3 := own_cellAt_mid BX.out (j := 3) rfl
      have hf3 := own_frozen_of BX.out 3
      have hr0 := own_cellAt_mid R5.out (j := 0) rfl
      have hz0 := own_frozen_of R5.out 0
      have hr1 := own_cellAt_mid R5.out (j := 1) rfl
      have hz1 := own_frozen_of R5.out 1
      have hr2 := own_cellAt_mid R5.out (j := 2) rfl
      have hz2 := own_frozen_of R5.out 2
      have hr3 := own_cellAt_mid R5.out (j := 3) rfl
      have hz3 := own_frozen_of R5.out 3
      go_wp2
      have T0 := Lib.hid (R5.out.stored 0 (.slice A2 L.length c2))
      have Z0 := Lib.hid T0.out.2
      have T1 := Lib.hid (T0.out.1.stored 1 (.int .i64 u))
      have Z1 := Lib.hid (Gx.trans Z0.out T1.out.2)
      have T2 := Lib.hid (T1.out.1.stored 2 (.int .i64 r))
      have Z2 := Lib.hid (Gx.trans Z1.out T2.out.2)
      have T3 := Lib.hid (T2.out.1.stored 3 (.bool true))
      have Z3 := Lib.hid (Gx.trans Z2.out T3.out.2)
      have G5 := Lib.hid (Gx.G (Gx.G G4.out GX.out (by intro i hi; cases hi; exact b0)) Z3.out (by intro i hi; cases hi; exact b1))
      have O6 := Lib.hid (own_Gx O5.out Z3.out m1)
      have O7 := Lib.hid (own_Gx HO1.out Z3.out m3)
      have k0 := own_cellAt_mid T3.out.1 (j := 0) rfl
      have k1 := own_cellAt_mid T3.out.1 (j := 1) rfl
      have k2 := own_cellAt_mid T3.out.1 (j := 2) rfl
      have k3 := own_cellAt_mid T3.out.1 (j := 3) rfl
      refine bodyPost_ret (v := .tuple #[pV A2 L.length c2 u r true, .slice A3 (idsB L t u).length c3, .int .i64 0]) (by simp [results, Tryz.results12, go_sem, k0, k1, k2, k3]) rfl ?_
      rw [H.out]
      exact ⟨A2, c2, A3, c3, rfl, G5.out, O6.out, O7.out.mono G4.out.size, D3.out⟩
end Go.Proofs.YtecakcgkibemaaaGreatDoor
