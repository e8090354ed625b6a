/-
  Walks: PlayOn, PauseOn, by both texts.
-/
import Derived.Test.YtecakcgkibemaaaGreatDoorOwn
namespace Go.Proofs.YtecakcgkibemaaaGreatDoor
open Go.RowKit

set_option maxHeartbeats 2000000 in
theorem iPlayOn_any (a : Addr) (n c : Nat) (t r : Int) (p : Bool) (L : List SCue) (w : World) (hr : Rd w (some a) 6 cCue L) (hn : L.length = n) (hb : n ≤ 4194304) (hcap : n ≤ c) (hwf : ∀ x ∈ L, WfCue x) :
    Calls Tryz.prog 8 #[pV (some a) n c t r p] w (ResP w (swR L t r p true)) := by
  have B0 := Lib.hid (((G.refl w).alloc (.cells #[.slice (some a) n c, .int .i64 t, .int .i64 r, .bool p] 25)).alloc (.cells #[.slice none 0 0, .int .i64 0, .int .i64 0, .bool false] 25))
  have KS := Lib.hid (switched_any (some a) n c t r p true L ((w.alloc (.cells #[.slice (some a) n c, .int .i64 t, .int .i64 r, .bool p] 25)).alloc (.cells #[.slice none 0 0, .int .i64 0, .int .i64 0, .bool false] 25)) (hr.G B0.out) hn hb hcap hwf)
  have OR := Lib.hid (own_new (w := w.alloc (.cells #[.slice (some a) n c, .int .i64 t, .int .i64 r, .bool p] 25)) (base := w.heap.size) (n := 1) (cap := 1) (size := 4) (e := 25) (cur := #[.slice none 0 0, .int .i64 0, .int .i64 0, .bool false]) (by simp) (by decide) (by decide) rfl)
  rw [show (w.alloc (.cells #[.slice (some a) n c, .int .i64 t, .int .i64 r, .bool p] 25)).heap.size = w.heap.size + 1 by simp] at OR
  have l0 := (OR.out.lt (w.heap.size + 1) rfl).2
  clear hr hn hwf hcap
  obtain ⟨R, HR⟩ : ∃ R, Hid (swR L t r p true = R) := ⟨_, rfl⟩
  rw [HR.out] at KS ⊢
  unfold pV
  go_enter Tryz.func8, Tryz.ntmps8
  go_wp2_with fail
  refine KS.out.mono ?_
  rintro e w1 ⟨A', c', rfl, g1, ho⟩
  have HO := Lib.hid (ho.mono B0.out.size)
  have hlt := ho.lt
  have G1 := Lib.hid (B0.out.trans g1)
  have R1 := Lib.hid (own_G OR.out g1)
  obtain ⟨q1, HQ1⟩ : ∃ q, Hid (w.heap.size + 1 = q) := ⟨_, rfl⟩
  have b1 : w.heap.size ≤ q1 := by rw [← HQ1.out]; omega
  have m1 : (Value.slice A' R.L.length c').ownBlock = none ∨ (Value.slice A' R.L.length c').ownBlock ≠ some q1 := .inr (fun e => by have := (hlt q1 e).1; have := HQ1.out; omega)
  rw [HQ1.out] at R1
  clear g1 hlt ho OR B0
  rw [HQ1.out]
  have hr0 := own_cellAt_mid R1.out (j := 0) rfl
  have hz0 := own_frozen_of R1.out 0
  have hr1 := own_cellAt_mid R1.out (j := 1) rfl
  have hz1 := own_frozen_of R1.out 1
  have hr2 := own_cellAt_mid R1.out (j := 2) rfl
  have hz2 := own_frozen_of R1.out 2
  have hr3 := own_cellAt_mid R1.out (j := 3) rfl
  have hz3 := own_frozen_of R1.out 3
  dsimp only
  go_wp2
  have T0 := Lib.hid (R1.out.stored 0 ((.slice A' R.L.length c')))
  have Z0 := Lib.hid T0.out.2
  have T1 := Lib.hid (T0.out.1.stored 1 (.int .i64 R.t))
  have Z1 := Lib.hid (Gx.trans Z0.out T1.out.2)
  have T2 := Lib.hid (T1.out.1.stored 2 (.int .i64 R.r))
  have Z2 := Lib.hid (Gx.trans Z1.out T2.out.2)
  have T3 := Lib.hid (T2.out.1.stored 3 (.bool R.p))
  have Z3 := Lib.hid (Gx.trans Z2.out T3.out.2)
  have G2 := Lib.hid (Gx.G G1.out Z3.out (by intro i hi; cases hi; exact b1))
  have O2 := Lib.hid (own_Gx HO.out Z3.out m1)
  have k0 := own_cellAt_mid T3.out.1 (j := 0) rfl
  have k1 := own_cellAt_mid T3.out.1 (j := 1) rfl
  have k2 := own_cellAt_mid T3.out.1 (j := 2) rfl
  have k3 := own_cellAt_mid T3.out.1 (j := 3) rfl
  refine bodyPost_ret (v := .tuple #[pV A' R.L.length c' R.t R.r R.p, .int .i64 R.code]) (by simp [results, Tryz.results8, go_sem, k0, k1, k2, k3]) rfl ⟨A', c', rfl, G2.out, O2.out⟩

set_option maxHeartbeats 2000000 in
theorem iPauseOn_any (a : Addr) (n c : Nat) (t r : Int) (p : Bool) (L : List SCue) (w : World) (hr : Rd w (some a) 6 cCue L) (hn : L.length = n) (hb : n ≤ 4194304) (hcap : n ≤ c) (hwf : ∀ x ∈ L, WfCue x) :
    Calls Tryz.prog 9 #[pV (some a) n c t r p] w (ResP w (swR L t r p false)) := by
  have B0 := Lib.hid (((G.refl w).alloc (.cells #[.slice (some a) n c, .int .i64 t, .int .i64 r, .bool p] 25)).alloc (.cells #[.slice none 0 0, .int .i64 0, .int .i64 0, .bool false] 25))
  have KS := Lib.hid (switched_any (some a) n c t r p false L ((w.alloc (.cells #[.slice (some a) n c, .int .i64 t, .int .i64 r, .bool p] 25)).alloc (.cells #[.slice none 0 0, .int .i64 0, .int .i64 0, .bool false] 25)) (hr.G B0.out) hn hb hcap hwf)
  have OR := Lib.hid (own_new (w := w.alloc (.cells #[.slice (some a) n c, .int .i64 t, .int .i64 r, .bool p] 25)) (base := w.heap.size) (n := 1) (cap := 1) (size := 4) (e := 25) (cur := #[.slice none 0 0, .int .i64 0, .int .i64 0, .bool false]) (by simp) (by decide) (by decide) rfl)
  rw [show (w.alloc (.cells #[.slice (some a) n c, .int .i64 t, .int .i64 r, .bool p] 25)).heap.size = w.heap.size + 1 by simp] at OR
  have l0 := (OR.out.lt (w.heap.size + 1) rfl).2
  clear hr hn hwf hcap
  obtain ⟨R, HR⟩ : ∃ R, Hid (swR L t r p false = R) := ⟨_, rfl⟩
  rw [HR.out] at KS ⊢
  unfold pV
  go_enter Tryz.func9, Tryz.ntmps9
  go_wp2_with fail
  refine KS.out.mono ?_
  rintro e w1 ⟨A', c', rfl, g1, ho⟩
  have HO := Lib.hid (ho.mono B0.out.size)
  have hlt := ho.lt
  have G1 := Lib.hid (B0.out.trans g1)
  have R1 := Lib.hid (own_G OR.out g1)
  obtain ⟨q1, HQ1⟩ : ∃ q, Hid (w.heap.size + 1 = q) := ⟨_, rfl⟩
  have b1 : w.heap.size ≤ q1 := by rw [← HQ1.out]; omega
  have m1 : (Value.slice A' R.L.length c').ownBlock = none ∨ (Value.slice A' R.L.length c').ownBlock ≠ some q1 := .inr (fun e => by have := (hlt q1 e).1; have := HQ1.out; omega)
  rw [HQ1.out] at R1
  clear g1 hlt ho OR B0
  rw [HQ1.out]
  have hr0 := own_cellAt_mid R1.out (j := 0) rfl
  have hz0 := own_frozen_of R1.out 0
  have hr1 := own_cellAt_mid R1.out (j := 1) rfl
  have hz1 := own_frozen_of R1.out 1
  have hr2 := own_cellAt_mid R1.out (j := 2) rfl
  have hz2 := own_frozen_of R1.out 2
  have hr3 := own_cellAt_mid R1.out (j := 3) rfl
  have hz3 := own_frozen_of R1.out 3
  dsimp only
  go_wp2
  have T0 := Lib.hid (R1.out.stored 0 ((.slice A' R.L.length c')))
  have Z0 := Lib.hid T0.out.2
  have T1 := Lib.hid (T0.out.1.stored 1 (.int .i64 R.t))
  have Z1 := Lib.hid (Gx.trans Z0.out T1.out.2)
  have T2 := Lib.hid (T1.out.1.stored 2 (.int .i64 R.r))
  have Z2 := Lib.hid (Gx.trans Z1.out T2.out.2)
  have T3 := Lib.hid (T2.out.1.stored 3 (.bool R.p))
  have Z3 := Lib.hid (Gx.trans Z2.out T3.out.2)
  have G2 := Lib.hid (Gx.G G1.out Z3.out (by intro i hi; cases hi; exact b1))
  have O2 := Lib.hid (own_Gx HO.out Z3.out m1)
  have k0 := own_cellAt_mid T3.out.1 (j := 0) rfl
  have k1 := own_cellAt_mid T3.out.1 (j := 1) rfl
  have k2 := own_cellAt_mid T3.out.1 (j := 2) rfl
  have k3 := own_cellAt_mid T3.out.1 (j := 3) rfl
  refine bodyPost_ret (v := .tuple #[pV A' R.L.length c' R.t R.r R.p, .int .i64 R.code]) (by simp [results, Tryz.results9, go_sem, k0, k1, k2, k3]) rfl ⟨A', c', rfl, G2.out, O2.out⟩

theorem swR_len (L : List SCue) {t r : Int} {p q : Bool} : (swR L t r p q).L.length ≤ L.length := by
  unfold swR noP
  split
  · simp
  · split <;> simp
end Go.Proofs.YtecakcgkibemaaaGreatDoor
