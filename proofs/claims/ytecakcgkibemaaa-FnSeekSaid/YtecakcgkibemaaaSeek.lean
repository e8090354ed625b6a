/-
  Walks: SeekTo, SetRate, by both texts.
-/
import Derived.Test.YtecakcgkibemaaaOwn
import Derived.Test.YtecakcgkibemaaaRemain
namespace Go.Proofs.Ytecakcgkibemaaa
open Go.RowKit

def setR (L : List SCue) (t r : Int) (p : Bool) (x : Int) : SRP := if vplB L t r = false then noP 1 else if inB x 100 4000 = false then noP 2 else ⟨L, t, x, p, 0⟩
theorem setR_len (L : List SCue) {t r : Int} {p : Bool} {x : Int} : (setR L t r p x).L.length ≤ L.length := by
  unfold setR noP
  split
  · simp
  · split <;> simp

def seekR (L : List SCue) (t r : Int) (p : Bool) (x : Int) : SRP := if vplB L t r = false then noP 1 else if inB x 0 (endL L) = false then noP 2 else ⟨L, x, r, p, 0⟩
theorem seekR_len (L : List SCue) {t r : Int} {p : Bool} {x : Int} : (seekR L t r p x).L.length ≤ L.length := by
  unfold seekR noP
  split
  · simp
  · split <;> simp

set_option maxHeartbeats 4000000 in
theorem iSeekTo_any (a : Addr) (n c : Nat) (t r : Int) (p : Bool) (L : List SCue) (x : Int) (w : World) (hr : Rd w (some a) 6 cCue L) (hn : L.length = n) (hb : n ≤ 4194304) (hcap : n ≤ c) (hwf : ∀ x ∈ L, WfCue x) :
    Calls Try.prog 9 #[pV (some a) n c t r p, .int .i64 x] w (ResP w (seekR L t r p x)) := by
  have B0 := Lib.hid (((G.refl w).alloc (.cells #[.slice (some a) n c, .int .i64 t, .int .i64 r, .bool p] 26)).alloc (.cells #[.slice none 0 0, .int .i64 0, .int .i64 0, .bool false] 26))
  have KV := Lib.hid (fun (W : World) (g : G w W) => iValidPlayer_any (some a) n c t r p L W (hr.G g) hn hb hcap hwf)
  have KC := Lib.hid (fun (W : World) (g : G w W) => cloneCue_any (some a) n c L W (hr.G g) hn hb)
  have KE := Lib.hid (fun (W : World) (g : G w W) => ShowEnd_any (some a) n c L W (hr.G g) hn hb hcap hwf)
  have K1 := Lib.hid (fun W => within_any x 0 (endL L) W)
  have OB := Lib.hid (own_G (own_new (w := w) (base := w.heap.size) (n := 1) (cap := 1) (size := 4) (e := 26) (cur := #[.slice (some a) n c, .int .i64 t, .int .i64 r, .bool p]) (Nat.le_refl _) (by decide) (by decide) rfl) ((G.refl _).alloc (.cells #[.slice none 0 0, .int .i64 0, .int .i64 0, .bool false] 26)))
  have OR := Lib.hid (own_new (w := w.alloc (.cells #[.slice (some a) n c, .int .i64 t, .int .i64 r, .bool p] 26)) (base := w.heap.size) (n := 1) (cap := 1) (size := 4) (e := 26) (cur := #[.slice none 0 0, .int .i64 0, .int .i64 0, .bool false]) (by simp) (by decide) (by decide) rfl)
  rw [show (w.alloc (.cells #[.slice (some a) n c, .int .i64 t, .int .i64 r, .bool p] 26)).heap.size = w.heap.size + 1 by simp] at OR
  have Hn := Lib.hid hn
  clear hr hn hwf hcap
  unfold pV
  cases hv : vplB L t r
  · have H := Lib.hid (show seekR L t r p x = noP 1 by unfold seekR; rw [if_pos hv])
    have HV := Lib.hid hv
    clear hv
    go_enter Try.func9, Try.ntmps9
    go_wp2_with fail
    refine (KV.out _ B0.out).mono ?_
    rintro e w1 ⟨rfl, g1⟩
    have G1 := Lib.hid (B0.out.trans g1)
    have B1 := Lib.hid (own_G OB.out g1)
    have R1 := Lib.hid (own_G OR.out g1)
    obtain ⟨q0, HQ0⟩ : ∃ q, Hid (w.heap.size = q) := ⟨_, rfl⟩
    obtain ⟨q1, HQ1⟩ : ∃ q, Hid (w.heap.size + 1 = q) := ⟨_, rfl⟩
    have b0 : w.heap.size ≤ q0 := by rw [← HQ0.out]; exact Nat.le_refl _
    have b1 : w.heap.size ≤ q1 := by rw [← HQ1.out]; omega
    have n01 : q0 ≠ q1 := by rw [← HQ1.out, ← HQ0.out]; omega
    rw [HQ0.out] at B1
    rw [HQ1.out] at R1
    clear g1 B0 OB OR
    rw [HV.out, HQ1.out, HQ0.out]
    dsimp only
    have hr0 := own_cellAt_mid R1.out (j := 0) rfl
    have hz0 := own_frozen_of R1.out 0
    have hr1 := own_cellAt_mid R1.out (j := 1) rfl
    have hz1 := own_frozen_of R1.out 1
    have hr2 := own_cellAt_mid R1.out (j := 2) rfl
    have hz2 := own_frozen_of R1.out 2
    have hr3 := own_cellAt_mid R1.out (j := 3) rfl
    have hz3 := own_frozen_of R1.out 3
    go_wp2
    have T0 := Lib.hid (R1.out.stored 0 (.slice none 0 0))
    have Z0 := Lib.hid T0.out.2
    have T1 := Lib.hid (T0.out.1.stored 1 (.int .i64 0))
    have Z1 := Lib.hid (Gx.trans Z0.out T1.out.2)
    have T2 := Lib.hid (T1.out.1.stored 2 (.int .i64 0))
    have Z2 := Lib.hid (Gx.trans Z1.out T2.out.2)
    have T3 := Lib.hid (T2.out.1.stored 3 (.bool false))
    have Z3 := Lib.hid (Gx.trans Z2.out T3.out.2)
    have G2 := Lib.hid (Gx.G G1.out Z3.out (by intro i hi; cases hi; exact b1))
    have k0 := own_cellAt_mid T3.out.1 (j := 0) rfl
    have k1 := own_cellAt_mid T3.out.1 (j := 1) rfl
    have k2 := own_cellAt_mid T3.out.1 (j := 2) rfl
    have k3 := own_cellAt_mid T3.out.1 (j := 3) rfl
    refine bodyPost_ret (v := .tuple #[pV none 0 0 0 0 false, .int .i64 1]) (by simp [results, Try.results9, go_sem, k0, k1, k2, k3]) rfl (resP_no H.out G2.out)
  have HF := Lib.hid (show seekR L t r p x = if inB x 0 (endL L) = false then noP 2 else ⟨L, x, r, p, 0⟩ by unfold seekR; rw [if_neg (by rw [hv]; simp)])
  have HV := Lib.hid hv
  obtain ⟨hvc, _⟩ := vplB_bd hv
  have HE := Lib.hid (show showEnd L = (endL L, 0) by unfold showEnd; rw [hvc]; simp)
  clear hvc
  clear hv
  cases ht : inB x 0 (endL L)
  · have H := Lib.hid (show seekR L t r p x = noP 2 by rw [HF.out, if_pos ht])
    rw [ht] at K1
    clear ht HF
    go_enter Try.func9, Try.ntmps9
    go_wp2_with fail
    refine (KV.out _ B0.out).mono ?_
    rintro e w1 ⟨rfl, g1⟩
    have G1 := Lib.hid (B0.out.trans g1)
    have B1 := Lib.hid (own_G OB.out g1)
    have R1 := Lib.hid (own_G OR.out g1)
    obtain ⟨q0, HQ0⟩ : ∃ q, Hid (w.heap.size = q) := ⟨_, rfl⟩
    obtain ⟨q1, HQ1⟩ : ∃ q, Hid (w.heap.size + 1 = q) := ⟨_, rfl⟩
    have b0 : w.heap.size ≤ q0 := by rw [← HQ0.out]; exact Nat.le_refl _
    have b1 : w.heap.size ≤ q1 := by rw [← HQ1.out]; omega
    have n01 : q0 ≠ q1 := by rw [← HQ1.out, ← HQ0.out]; omega
    rw [HQ0.out] at B1
    rw [HQ1.out] at R1
    clear g1 B0 OB OR
    rw [HV.out, HQ1.out, HQ0.out]
    dsimp only
    have hc0 := own_cellAt_mid B1.out (j := 0) rfl
    have hy0 := own_frozen_of B1.out 0
    have hc1 := own_cellAt_mid B1.out (j := 1) rfl
    have hy1 := own_frozen_of B1.out 1
    have hc2 := own_cellAt_mid B1.out (j := 2) rfl
    have hy2 := own_frozen_of B1.out 2
    have hc3 := own_cellAt_mid B1.out (j := 3) rfl
    have hy3 := own_frozen_of B1.out 3
    go_wp2_with fail
    refine (KE.out _ G1.out).mono ?_
    rintro e w1 ⟨rfl, g1⟩
    have G1 := Lib.hid (G1.out.trans g1)
    have B1 := Lib.hid (own_G B1.out g1)
    have R1 := Lib.hid (own_G R1.out g1)
    clear g1 hc0 hy0 hc1 hy1 hc2 hy2 hc3 hy3
    rw [HE.out]
    dsimp only
    have hr0 := own_cellAt_mid R1.out (j := 0) rfl
    have hz0 := own_frozen_of R1.out 0
    have hr1 := own_cellAt_mid R1.out (j := 1) rfl
    have hz1 := own_frozen_of R1.out 1
    have hr2 := own_cellAt_mid R1.out (j := 2) rfl
    have hz2 := own_frozen_of R1.out 2
    have hr3 := own_cellAt_mid R1.out (j := 3) rfl
    have hz3 := own_frozen_of R1.out 3
    have hc0 := own_cellAt_mid B1.out (j := 0) rfl
    have hy0 := own_frozen_of B1.out 0
    have hc1 := own_cellAt_mid B1.out (j := 1) rfl
    have hy1 := own_frozen_of B1.out 1
    have hc2 := own_cellAt_mid B1.out (j := 2) rfl
    have hy2 := own_frozen_of B1.out 2
    have hc3 := own_cellAt_mid B1.out (j := 3) rfl
    have hy3 := own_frozen_of B1.out 3
    go_wp2_with (go_at_call 17; (with_reducible refine (K1.out _).mono ?_); rintro e w2 ⟨rfl, rfl⟩; dsimp only)
    have T0 := Lib.hid (R1.out.stored 0 (.slice none 0 0))
    have Z0 := Lib.hid T0.out.2
    have T1 := Lib.hid (T0.out.1.stored 1 (.int .i64 0))
    have Z1 := Lib.hid (Gx.trans Z0.out T1.out.2)
    have T2 := Lib.hid (T1.out.1.stored 2 (.int .i64 0))
    have Z2 := Lib.hid (Gx.trans Z1.out T2.out.2)
    have T3 := Lib.hid (T2.out.1.stored 3 (.bool false))
    have Z3 := Lib.hid (Gx.trans Z2.out T3.out.2)
    have G2 := Lib.hid (Gx.G G1.out Z3.out (by intro i hi; cases hi; exact b1))
    have k0 := own_cellAt_mid T3.out.1 (j := 0) rfl
    have k1 := own_cellAt_mid T3.out.1 (j := 1) rfl
    have k2 := own_cellAt_mid T3.out.1 (j := 2) rfl
    have k3 := own_cellAt_mid T3.out.1 (j := 3) rfl
    refine bodyPost_ret (v := .tuple #[pV none 0 0 0 0 false, .int .i64 2]) (by simp [results, Try.results9, go_sem, k0, k1, k2, k3]) rfl (resP_no H.out G2.out)
  have H := Lib.hid (show seekR L t r p x = ⟨L, x, r, p, 0⟩ by rw [HF.out, if_neg (by rw [ht]; simp)])
  rw [ht] at K1
  clear ht HF
  go_enter Try.func9, Try.ntmps9
  go_wp2_with fail
  refine (KV.out _ B0.out).mono ?_
  rintro e w1 ⟨rfl, g1⟩
  have G1 := Lib.hid (B0.out.trans g1)
  have B1 := Lib.hid (own_G OB.out g1)
  have R1 := Lib.hid (own_G OR.out g1)
  obtain ⟨q0, HQ0⟩ : ∃ q, Hid (w.heap.size = q) := ⟨_, rfl⟩
  obtain ⟨q1, HQ1⟩ : ∃ q, Hid (w.heap.size + 1 = q) := ⟨_, rfl⟩
  have b0 : w.heap.size ≤ q0 := by rw [← HQ0.out]; exact Nat.le_refl _
  have b1 : w.heap.size ≤ q1 := by rw [← HQ1.out]; omega
  have n01 : q0 ≠ q1 := by rw [← HQ1.out, ← HQ0.out]; omega
  rw [HQ0.out] at B1
  rw [HQ1.out] at R1
  clear g1 B0 OB OR
  rw [HV.out, HQ1.out, HQ0.out]
  dsimp only
  have hc0 := own_cellAt_mid B1.out (j := 0) rfl
  have hy0 := own_frozen_of B1.out 0
  have hc1 := own_cellAt_mid B1.out (j := 1) rfl
  have hy1 := own_frozen_of B1.out 1
  have hc2 := own_cellAt_mid B1.out (j := 2) rfl
  have hy2 := own_frozen_of B1.out 2
  have hc3 := own_cellAt_mid B1.out (j := 3) rfl
  have hy3 := own_frozen_of B1.out 3
  go_wp2_with fail
  refine (KE.out _ G1.out).mono ?_
  rintro e w1 ⟨rfl, g1⟩
  have G1 := Lib.hid (G1.out.trans g1)
  have B1 := Lib.hid (own_G B1.out g1)
  have R1 := Lib.hid (own_G R1.out g1)
  clear g1 hc0 hy0 hc1 hy1 hc2 hy2 hc3 hy3
  rw [HE.out]
  dsimp only
  have hc0 := own_cellAt_mid B1.out (j := 0) rfl
  have hy0 := own_frozen_of B1.out 0
  have hc1 := own_cellAt_mid B1.out (j := 1) rfl
  have hy1 := own_frozen_of B1.out 1
  have hc2 := own_cellAt_mid B1.out (j := 2) rfl
  have hy2 := own_frozen_of B1.out 2
  have hc3 := own_cellAt_mid B1.out (j := 3) rfl
  have hy3 := own_frozen_of B1.out 3
  go_wp2_with (go_at_call 17; (with_reducible refine (K1.out _).mono ?_); rintro e w2 ⟨rfl, rfl⟩; dsimp only)
  refine (KC.out _ G1.out).mono ?_
  rintro e w2 ⟨v, rfl, ho, g2⟩
  obtain ⟨A2, c2, rfl⟩ := own_val ho
  have HO := Lib.hid (ho.mono G1.out.size)
  have hlt := ho.lt
  have G2 := Lib.hid (G1.out.trans g2)
  have B2 := Lib.hid (own_G B1.out g2)
  have R2 := Lib.hid (own_G R1.out g2)
  have l0 := (B1.out.lt q0 rfl).2
  have l1 := (R1.out.lt q1 rfl).2
  have m0 : (Value.slice A2 L.length c2).ownBlock = none ∨ (Value.slice A2 L.length c2).ownBlock ≠ some q0 := .inr (fun e => by have := (hlt q0 e).1; omega)
  have m1 : (Value.slice A2 L.length c2).ownBlock = none ∨ (Value.slice A2 L.length c2).ownBlock ≠ some q1 := .inr (fun e => by have := (hlt q1 e).1; omega)
  clear hlt ho g2 B1 R1 hc0 hy0 hc1 hy1 hc2 hy2 hc3 hy3
  have hc0 := own_cellAt_mid B2.out (j := 0) rfl
  have hy0 := own_frozen_of B2.out 0
  have hc1 := own_cellAt_mid B2.out (j := 1) rfl
  have hy1 := own_frozen_of B2.out 1
  have hc2 := own_cellAt_mid B2.out (j := 2) rfl
  have hy2 := own_frozen_of B2.out 2
  have hc3 := own_cellAt_mid B2.out (j := 3) rfl
  have hy3 := own_frozen_of B2.out 3
  have hr0 := own_cellAt_mid R2.out (j := 0) rfl
  have hz0 := own_frozen_of R2.out 0
  have hr1 := own_cellAt_mid R2.out (j := 1) rfl
  have hz1 := own_frozen_of R2.out 1
  have hr2 := own_cellAt_mid R2.out (j := 2) rfl
  have hz2 := own_frozen_of R2.out 2
  have hr3 := own_cellAt_mid R2.out (j := 3) rfl
  have hz3 := own_frozen_of R2.out 3
  dsimp only
  go_wp2
  have S0 := Lib.hid (B2.out.stored 0 (.slice A2 L.length c2))
  have Y0 := Lib.hid S0.out.2
  have S1 := Lib.hid (S0.out.1.stored 1 (.int .i64 x))
  have Y1 := Lib.hid (Gx.trans Y0.out S1.out.2)
  have R3 := Lib.hid (own_Gx R2.out Y1.out (.inr (by simp [Value.ownBlock]; omega)))
  have T0 := Lib.hid (R3.out.stored 0 (.slice A2 L.length c2))
  have Z0 := Lib.hid T0.out.2
  have T1 := Lib.hid (T0.out.1.stored 1 (.int .i64 x))
  have Z1 := Lib.hid (Gx.trans Z0.out T1.out.2)
  have T2 := Lib.hid (T1.out.1.stored 2 (.int .i64 r))
  have Z2 := Lib.hid (Gx.trans Z1.out T2.out.2)
  have T3 := Lib.hid (T2.out.1.stored 3 (.bool p))
  have Z3 := Lib.hid (Gx.trans Z2.out T3.out.2)
  have G3 := Lib.hid (Gx.G (Gx.G G2.out Y1.out (by intro i hi; cases hi; exact b0)) Z3.out (by intro i hi; cases hi; exact b1))
  have O3 := Lib.hid (own_Gx (own_Gx HO.out Y1.out m0) Z3.out m1)
  have k0 := own_cellAt_mid T3.out.1 (j := 0) rfl
  have k1 := own_cellAt_mid T3.out.1 (j := 1) rfl
  have k2 := own_cellAt_mid T3.out.1 (j := 2) rfl
  have k3 := own_cellAt_mid T3.out.1 (j := 3) rfl
  refine bodyPost_ret (v := .tuple #[pV A2 L.length c2 x r p, .int .i64 0]) (by simp [results, Try.results9, go_sem, k0, k1, k2, k3]) rfl ?_
  rw [H.out]
  exact ⟨A2, c2, rfl, G3.out, O3.out⟩

end Go.Proofs.Ytecakcgkibemaaa
