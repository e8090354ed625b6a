/-
  Walks: a player started or stopped, by both texts.
-/
import Derived.Test.YtecakcgkibemaaaGreatDoorPlayer
import Derived.Test.YtecakcgkibemaaaGreatDoorCloneCue
namespace Go.Proofs.YtecakcgkibemaaaGreatDoor
open Go.RowKit

/-- A plain result: a player and a code. -/
structure SRP where
  L : List SCue
  t : Int
  r : Int
  p : Bool
  code : Int
def noP (code : Int) : SRP := ⟨[], 0, 0, false, code⟩
def ResP (w : World) (R : SRP) (e : Ending) (w' : World) : Prop :=
  ∃ A c, e = .returned (.tuple #[pV A R.L.length c R.t R.r R.p, .int .i64 R.code]) ∧ G w w' ∧ w'.ownsRow w.heap.size 49 6 (.slice A R.L.length c) R.L.length (R.L.flatMap cCue)
theorem resP_no {w w' : World} {R : SRP} {code : Int} (h : R = noP code) (hg : G w w') : ResP w R (.returned (.tuple #[pV none 0 0 0 0 false, .int .i64 code])) w' := by
  subst h
  exact ⟨none, 0, rfl, hg, World.ownsRow_nil _ _ _ _⟩
theorem own_val {w : World} {B T sz n : Nat} {v : Value} {xs : List Value} (h : w.ownsRow B T sz v n xs) : ∃ A c, v = .slice A n c := by
  rcases h.2 with ⟨rfl, rfl⟩ | ⟨g, cap, cur, rfl, _⟩
  · exact ⟨_, _, rfl⟩
  · exact ⟨_, _, rfl⟩
def swR (L : List SCue) (t r : Int) (p q : Bool) : SRP := if vplB L t r = false then noP 1 else if p = q then noP 6 else ⟨L, t, r, q, 0⟩

set_option maxHeartbeats 2000000 in
theorem switched_any (A : Option Addr) (n c : Nat) (t r : Int) (p q : Bool) (L : List SCue) (w : World) (hr : Rd w A 6 cCue L) (hn : L.length = n) (hb : n ≤ 4194304) (hcap : n ≤ c) (hwf : ∀ x ∈ L, WfCue x) :
    Calls Tryz.prog 23 #[pV A n c t r p, .bool q] w (ResP w (swR L t r p q)) := by
  have KV := Lib.hid (fun (W : World) (g : G w W) => iValidPlayer_any A n c t r p L W (hr.G g) hn hb hcap hwf)
  have KC := Lib.hid (fun (W : World) (g : G w W) => cloneCue_any A n c L W (hr.G g) hn hb)
  have B0 := Lib.hid (((G.refl w).alloc (.cells #[.slice A n c, .int .i64 t, .int .i64 r, .bool p] 25)).alloc (.cells #[.slice none 0 0, .int .i64 0, .int .i64 0, .bool false] 25))
  have OB := Lib.hid (own_G (own_new (w := w) (base := w.heap.size) (n := 1) (cap := 1) (size := 4) (e := 25) (cur := #[.slice A n c, .int .i64 t, .int .i64 r, .bool p]) (Nat.le_refl _) (by decide) (by decide) rfl) ((G.refl _).alloc (.cells #[.slice none 0 0, .int .i64 0, .int .i64 0, .bool false] 25)))
  have OR := Lib.hid (own_new (w := w.alloc (.cells #[.slice A n c, .int .i64 t, .int .i64 r, .bool p] 25)) (base := w.heap.size) (n := 1) (cap := 1) (size := 4) (e := 25) (cur := #[.slice none 0 0, .int .i64 0, .int .i64 0, .bool false]) (by simp) (by decide) (by decide) rfl)
  rw [show (w.alloc (.cells #[.slice A n c, .int .i64 t, .int .i64 r, .bool p] 25)).heap.size = w.heap.size + 1 by simp] at OR
  have Hn := Lib.hid hn
  clear hr hn hwf hcap
  unfold pV
  cases hv : vplB L t r
  · have H := Lib.hid (show swR L t r p q = noP 1 by unfold swR; rw [if_pos hv])
    have HV := Lib.hid hv
    clear hv
    go_enter Tryz.func23, Tryz.ntmps23
    go_wp2_with fail
    refine (KV.out _ B0.out).mono ?_
    rintro e w1 ⟨rfl, g1⟩
    have G1 := Lib.hid (B0.out.trans g1)
    have B1 := Lib.hid (own_G OB.out g1)
    have R1 := Lib.hid (own_G OR.out g1)
    obtain ⟨q0, HQ0⟩ : ∃ q, Hid (w.heap.size = q) := ⟨_, rfl⟩
    obtain ⟨q1, HQ1⟩ : ∃ q, Hid (w.heap.size + 1 = q) := ⟨_, rfl⟩
    have b0 : w.heap.size ≤ q0 := by rw [← HQ0.out]; exact Nat.le_refl _
    have b1 : w.heap.size ≤ q1 := by rw [← HQ1.out]; omega
    have n01 : q0 ≠ q1 := by rw [← HQ1.out, ← HQ0.out]; omega
    rw [HQ0.out] at B1
    rw [HQ1.out] at R1
    clear g1 B0 OB OR
    rw [HV.out, HQ1.out, HQ0.out]
    dsimp only
    have hr0 := own_cellAt_mid R1.out (j := 0) rfl
    have hz0 := own_frozen_of R1.out 0
    have hr1 := own_cellAt_mid R1.out (j := 1) rfl
    have hz1 := own_frozen_of R1.out 1
    have hr2 := own_cellAt_mid R1.out (j := 2) rfl
    have hz2 := own_frozen_of R1.out 2
    have hr3 := own_cellAt_mid R1.out (j := 3) rfl
    have hz3 := own_frozen_of R1.out 3
    have hc0 := own_cellAt_mid B1.out (j := 0) rfl
    have hy0 := own_frozen_of B1.out 0
    have hc1 := own_cellAt_mid B1.out (j := 1) rfl
    have hy1 := own_frozen_of B1.out 1
    have hc2 := own_cellAt_mid B1.out (j := 2) rfl
    have hy2 := own_frozen_of B1.out 2
    have hc3 := own_cellAt_mid B1.out (j := 3) rfl
    have hy3 := own_frozen_of B1.out 3
    go_wp2
    have T0 := Lib.hid (R1.out.stored 0 (.slice none 0 0))
    have Z0 := Lib.hid T0.out.2
    have T1 := Lib.hid (T0.out.1.stored 1 (.int .i64 0))
    have Z1 := Lib.hid (Gx.trans Z0.out T1.out.2)
    have T2 := Lib.hid (T1.out.1.stored 2 (.int .i64 0))
    have Z2 := Lib.hid (Gx.trans Z1.out T2.out.2)
    have T3 := Lib.hid (T2.out.1.stored 3 (.bool false))
    have Z3 := Lib.hid (Gx.trans Z2.out T3.out.2)
    have G2 := Lib.hid (Gx.G G1.out Z3.out (by intro i hi; cases hi; exact b1))
    have k0 := own_cellAt_mid T3.out.1 (j := 0) rfl
    have k1 := own_cellAt_mid T3.out.1 (j := 1) rfl
    have k2 := own_cellAt_mid T3.out.1 (j := 2) rfl
    have k3 := own_cellAt_mid T3.out.1 (j := 3) rfl
    refine bodyPost_ret (v := .tuple #[pV none 0 0 0 0 false, .int .i64 1]) (by simp [results, Tryz.results23, go_sem, k0, k1, k2, k3]) rfl (resP_no H.out G2.out)
  have HF := Lib.hid (show swR L t r p q = if p = q then noP 6 else ⟨L, t, r, q, 0⟩ by unfold swR; rw [if_neg (by rw [hv]; simp)])
  have HV := Lib.hid hv
  clear hv
  by_cases hpq : p = q
  · subst hpq
    have H := Lib.hid (show swR L t r p p = noP 6 by rw [HF.out, if_pos rfl])
    go_enter Tryz.func23, Tryz.ntmps23
    go_wp2_with fail
    refine (KV.out _ B0.out).mono ?_
    rintro e w1 ⟨rfl, g1⟩
    have G1 := Lib.hid (B0.out.trans g1)
    have B1 := Lib.hid (own_G OB.out g1)
    have R1 := Lib.hid (own_G OR.out g1)
    obtain ⟨q0, HQ0⟩ : ∃ q, Hid (w.heap.size = q) := ⟨_, rfl⟩
    obtain ⟨q1, HQ1⟩ : ∃ q, Hid (w.heap.size + 1 = q) := ⟨_, rfl⟩
    have b0 : w.heap.size ≤ q0 := by rw [← HQ0.out]; exact Nat.le_refl _
    have b1 : w.heap.size ≤ q1 := by rw [← HQ1.out]; omega
    have n01 : q0 ≠ q1 := by rw [← HQ1.out, ← HQ0.out]; omega
    rw [HQ0.out] at B1
    rw [HQ1.out] at R1
    clear g1 B0 OB OR
    rw [HV.out, HQ1.out, HQ0.out]
    dsimp only
    have hr0 := own_cellAt_mid R1.out (j := 0) rfl
    have hz0 := own_frozen_of R1.out 0
    have hr1 := own_cellAt_mid R1.out (j := 1) rfl
    have hz1 := own_frozen_of R1.out 1
    have hr2 := own_cellAt_mid R1.out (j := 2) rfl
    have hz2 := own_frozen_of R1.out 2
    have hr3 := own_cellAt_mid R1.out (j := 3) rfl
    have hz3 := own_frozen_of R1.out 3
    have hc0 := own_cellAt_mid B1.out (j := 0) rfl
    have hy0 := own_frozen_of B1.out 0
    have hc1 := own_cellAt_mid B1.out (j := 1) rfl
    have hy1 := own_frozen_of B1.out 1
    have hc2 := own_cellAt_mid B1.out (j := 2) rfl
    have hy2 := own_frozen_of B1.out 2
    have hc3 := own_cellAt_mid B1.out (j := 3) rfl
    have hy3 := own_frozen_of B1.out 3
    go_wp2
    have T0 := Lib.hid (R1.out.stored 0 (.slice none 0 0))
    have Z0 := Lib.hid T0.out.2
    have T1 := Lib.hid (T0.out.1.stored 1 (.int .i64 0))
    have Z1 := Lib.hid (Gx.trans Z0.out T1.out.2)
    have T2 := Lib.hid (T1.out.1.stored 2 (.int .i64 0))
    have Z2 := Lib.hid (Gx.trans Z1.out T2.out.2)
    have T3 := Lib.hid (T2.out.1.stored 3 (.bool false))
    have Z3 := Lib.hid (Gx.trans Z2.out T3.out.2)
    have G2 := Lib.hid (Gx.G G1.out Z3.out (by intro i hi; cases hi; exact b1))
    have k0 := own_cellAt_mid T3.out.1 (j := 0) rfl
    have k1 := own_cellAt_mid T3.out.1 (j := 1) rfl
    have k2 := own_cellAt_mid T3.out.1 (j := 2) rfl
    have k3 := own_cellAt_mid T3.out.1 (j := 3) rfl
    refine bodyPost_ret (v := .tuple #[pV none 0 0 0 0 false, .int .i64 6]) (by simp [results, Tryz.results23, go_sem, k0, k1, k2, k3]) rfl (resP_no H.out G2.out)
  have H := Lib.hid (show swR L t r p q = ⟨L, t, r, q, 0⟩ by rw [HF.out, if_neg hpq])
  have hd : (p == q) = false := by simp [hpq]
  go_enter Tryz.func23, Tryz.ntmps23
  go_wp2_with fail
  refine (KV.out _ B0.out).mono ?_
  rintro e w1 ⟨rfl, g1⟩
  have G1 := Lib.hid (B0.out.trans g1)
  have B1 := Lib.hid (own_G OB.out g1)
  have R1 := Lib.hid (own_G OR.out g1)
  obtain ⟨q0, HQ0⟩ : ∃ q, Hid (w.heap.size = q) := ⟨_, rfl⟩
  obtain ⟨q1, HQ1⟩ : ∃ q, Hid (w.heap.size + 1 = q) := ⟨_, rfl⟩
  have b0 : w.heap.size ≤ q0 := by rw [← HQ0.out]; exact Nat.le_refl _
  have b1 : w.heap.size ≤ q1 := by rw [← HQ1.out]; omega
  have n01 : q0 ≠ q1 := by rw [← HQ1.out, ← HQ0.out]; omega
  rw [HQ0.out] at B1
  rw [HQ1.out] at R1
  clear g1 B0 OB OR
  rw [HV.out, HQ1.out, HQ0.out]
  dsimp only
  have hc0 := own_cellAt_mid B1.out (j := 0) rfl
  have hy0 := own_frozen_of B1.out 0
  have hc1 := own_cellAt_mid B1.out (j := 1) rfl
  have hy1 := own_frozen_of B1.out 1
  have hc2 := own_cellAt_mid B1.out (j := 2) rfl
  have hy2 := own_frozen_of B1.out 2
  have hc3 := own_cellAt_mid B1.out (j := 3) rfl
  have hy3 := own_frozen_of B1.out 3
  go_wp2_with fail
  refine (KC.out _ G1.out).mono ?_
  rintro e w2 ⟨v, rfl, ho, g2⟩
  obtain ⟨A2, c2, rfl⟩ := own_val ho
  have HO := Lib.hid (ho.mono G1.out.size)
  have hlt := ho.lt
  have G2 := Lib.hid (G1.out.trans g2)
  have B2 := Lib.hid (own_G B1.out g2)
  have R2 := Lib.hid (own_G R1.out g2)
  have hne : ∀ q, q < w1.heap.size → (Value.slice A2 L.length c2).ownBlock = none ∨ (Value.slice A2 L.length c2).ownBlock ≠ some q := fun q hq => .inr (fun e => by have := (hlt q e).1; omega)
  have m0 := hne q0 (B1.out.lt q0 rfl).2
  have m1 := hne q1 (R1.out.lt q1 rfl).2
  clear hne hlt ho g2 B1 R1 hc0 hy0 hc1 hy1 hc2 hy2 hc3 hy3
  have hc0 := own_cellAt_mid B2.out (j := 0) rfl
  have hy0 := own_frozen_of B2.out 0
  have hc1 := own_cellAt_mid B2.out (j := 1) rfl
  have hy1 := own_frozen_of B2.out 1
  have hc2 := own_cellAt_mid B2.out (j := 2) rfl
  have hy2 := own_frozen_of B2.out 2
  have hc3 := own_cellAt_mid B2.out (j := 3) rfl
  have hy3 := own_frozen_of B2.out 3
  have hr0 := own_cellAt_mid R2.out (j := 0) rfl
  have hz0 := own_frozen_of R2.out 0
  have hr1 := own_cellAt_mid R2.out (j := 1) rfl
  have hz1 := own_frozen_of R2.out 1
  have hr2 := own_cellAt_mid R2.out (j := 2) rfl
  have hz2 := own_frozen_of R2.out 2
  have hr3 := own_cellAt_mid R2.out (j := 3) rfl
  have hz3 := own_frozen_of R2.out 3
  dsimp only
  go_wp2
  have S0 := Lib.hid (B2.out.stored 0 (.slice A2 L.length c2))
  have Y0 := Lib.hid S0.out.2
  have S3 := Lib.hid (S0.out.1.stored 3 (.bool q))
  have Y3 := Lib.hid (Gx.trans Y0.out S3.out.2)
  have R3 := Lib.hid (own_Gx R2.out Y3.out (.inr (by simp [Value.ownBlock]; omega)))
  have T0 := Lib.hid (R3.out.stored 0 (.slice A2 L.length c2))
  have Z0 := Lib.hid T0.out.2
  have T1 := Lib.hid (T0.out.1.stored 1 (.int .i64 t))
  have Z1 := Lib.hid (Gx.trans Z0.out T1.out.2)
  have T2 := Lib.hid (T1.out.1.stored 2 (.int .i64 r))
  have Z2 := Lib.hid (Gx.trans Z1.out T2.out.2)
  have T3 := Lib.hid (T2.out.1.stored 3 (.bool q))
  have Z3 := Lib.hid (Gx.trans Z2.out T3.out.2)
  have G3 := Lib.hid (Gx.G (Gx.G G2.out Y3.out (by intro i hi; cases hi; exact b0)) Z3.out (by intro i hi; cases hi; exact b1))
  have O3 := Lib.hid (own_Gx (own_Gx HO.out Y3.out m0) Z3.out m1)
  have k0 := own_cellAt_mid T3.out.1 (j := 0) rfl
  have k1 := own_cellAt_mid T3.out.1 (j := 1) rfl
  have k2 := own_cellAt_mid T3.out.1 (j := 2) rfl
  have k3 := own_cellAt_mid T3.out.1 (j := 3) rfl
  refine bodyPost_ret (v := .tuple #[pV A2 L.length c2 t r q, .int .i64 0]) (by simp [results, Tryz.results23, go_sem, k0, k1, k2, k3]) rfl ?_
  rw [H.out]
  exact ⟨A2, c2, rfl, G3.out, O3.out⟩
end Go.Proofs.YtecakcgkibemaaaGreatDoor
