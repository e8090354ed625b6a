/-
  Walks: NewPlayer, by both texts.
-/
import Derived.Test.YtdpmnmhblnjhiaaOwn
namespace Go.Proofs.Ytdpmnmhblnjhiaa
open Go.RowKit

def newR (L : List SCue) : SRP := if vcus L = false then noP 1 else ⟨L, 0, 1000, false, 0⟩
theorem newR_len (L : List SCue) : (newR L).L.length ≤ L.length := by
  unfold newR noP
  split <;> simp

set_option maxHeartbeats 4000000 in
theorem iNewPlayer_any (a : Addr) (n c : Nat) (L : List SCue) (w : World) (hr : Rd w (some a) 6 cCue L) (hn : L.length = n) (hb : n ≤ 4194304) (hcap : n ≤ c) (hwf : ∀ x ∈ L, WfCue x) :
    Calls Try.prog 28 #[.slice (some a) n c] w (ResP w (newR L)) := by
  have B0 := Lib.hid ((G.refl w).alloc (.cells #[.slice none 0 0, .int .i64 0, .int .i64 0, .bool false] 29))
  have KV := Lib.hid (ValidCues_any (some a) n c L (w.alloc (.cells #[.slice none 0 0, .int .i64 0, .int .i64 0, .bool false] 29)) (hr.G B0.out) hn hb hcap hwf)
  have KC := Lib.hid (fun (W : World) (g : G w W) => cloneCue_any (some a) n c L W (hr.G g) hn hb)
  have OR := Lib.hid (own_new (w := w) (base := w.heap.size) (n := 1) (cap := 1) (size := 4) (e := 29) (cur := #[.slice none 0 0, .int .i64 0, .int .i64 0, .bool false]) (Nat.le_refl _) (by decide) (by decide) rfl)
  have Hn := Lib.hid hn
  clear hr hn hwf hcap
  cases hv : vcus L
  · have H := Lib.hid (show newR L = noP 1 by unfold newR; rw [if_pos hv])
    have HV := Lib.hid hv
    clear hv
    go_enter Try.func28, Try.ntmps28
    go_wp2_with fail
    refine KV.out.mono ?_
    rintro e w1 ⟨rfl, g1⟩
    have G1 := Lib.hid (B0.out.trans g1)
    have R1 := Lib.hid (own_G OR.out g1)
    obtain ⟨q0, HQ0⟩ : ∃ q, Hid (w.heap.size = q) := ⟨_, rfl⟩
    have b0 : w.heap.size ≤ q0 := by rw [← HQ0.out]; exact Nat.le_refl _
    rw [HQ0.out] at R1
    clear g1 OR
    rw [HV.out, HQ0.out]
    dsimp only
    have hr0 := own_cellAt_mid R1.out (j := 0) rfl
    have hz0 := own_frozen_of R1.out 0
    have hr1 := own_cellAt_mid R1.out (j := 1) rfl
    have hz1 := own_frozen_of R1.out 1
    have hr2 := own_cellAt_mid R1.out (j := 2) rfl
    have hz2 := own_frozen_of R1.out 2
    have hr3 := own_cellAt_mid R1.out (j := 3) rfl
    have hz3 := own_frozen_of R1.out 3
    go_wp2
    have T0 := Lib.hid (R1.out.stored 0 (.slice none 0 0))
    have Z0 := Lib.hid T0.out.2
    have T1 := Lib.hid (T0.out.1.stored 1 (.int .i64 0))
    have Z1 := Lib.hid (Gx.trans Z0.out T1.out.2)
    have T2 := Lib.hid (T1.out.1.stored 2 (.int .i64 0))
    have Z2 := Lib.hid (Gx.trans Z1.out T2.out.2)
    have T3 := Lib.hid (T2.out.1.stored 3 (.bool false))
    have Z3 := Lib.hid (Gx.trans Z2.out T3.out.2)
    have G2 := Lib.hid (Gx.G G1.out Z3.out (by intro i hi; cases hi; exact b0))
    have k0 := own_cellAt_mid T3.out.1 (j := 0) rfl
    have k1 := own_cellAt_mid T3.out.1 (j := 1) rfl
    have k2 := own_cellAt_mid T3.out.1 (j := 2) rfl
    have k3 := own_cellAt_mid T3.out.1 (j := 3) rfl
    refine bodyPost_ret (v := .tuple #[pV none 0 0 0 0 false, .int .i64 1]) (by simp [results, Try.results28, go_sem, k0, k1, k2, k3]) rfl (resP_no H.out G2.out)
  have H := Lib.hid (show newR L = ⟨L, 0, 1000, false, 0⟩ by unfold newR; rw [if_neg (by rw [hv]; simp)])
  have HV := Lib.hid hv
  clear hv
  go_enter Try.func28, Try.ntmps28
  go_wp2_with fail
  refine KV.out.mono ?_
  rintro e w1 ⟨rfl, g1⟩
  have G1 := Lib.hid (B0.out.trans g1)
  have R1 := Lib.hid (own_G OR.out g1)
  obtain ⟨q0, HQ0⟩ : ∃ q, Hid (w.heap.size = q) := ⟨_, rfl⟩
  have b0 : w.heap.size ≤ q0 := by rw [← HQ0.out]; exact Nat.le_refl _
  rw [HQ0.out] at R1
  clear g1 OR
  rw [HV.out, HQ0.out]
  dsimp only
  go_wp2_with fail
  refine (KC.out _ G1.out).mono ?_
  rintro e w2 ⟨v, rfl, ho, g2⟩
  obtain ⟨A2, c2, rfl⟩ := own_val ho
  have HO := Lib.hid (ho.mono G1.out.size)
  have hlt := ho.lt
  have G2 := Lib.hid (G1.out.trans g2)
  have R2 := Lib.hid (own_G R1.out g2)
  have l0 := (R1.out.lt q0 rfl).2
  have m0 : (Value.slice A2 L.length c2).ownBlock = none ∨ (Value.slice A2 L.length c2).ownBlock ≠ some q0 := .inr (fun e => by have := (hlt q0 e).1; omega)
  clear hlt ho g2 R1
  have hr0 := own_cellAt_mid R2.out (j := 0) rfl
  have hz0 := own_frozen_of R2.out 0
  have hr1 := own_cellAt_mid R2.out (j := 1) rfl
  have hz1 := own_frozen_of R2.out 1
  have hr2 := own_cellAt_mid R2.out (j := 2) rfl
  have hz2 := own_frozen_of R2.out 2
  have hr3 := own_cellAt_mid R2.out (j := 3) rfl
  have hz3 := own_frozen_of R2.out 3
  dsimp only
  go_wp2
  have T0 := Lib.hid (R2.out.stored 0 (.slice A2 L.length c2))
  have Z0 := Lib.hid T0.out.2
  have T1 := Lib.hid (T0.out.1.stored 1 (.int .i64 0))
  have Z1 := Lib.hid (Gx.trans Z0.out T1.out.2)
  have T2 := Lib.hid (T1.out.1.stored 2 (.int .i64 1000))
  have Z2 := Lib.hid (Gx.trans Z1.out T2.out.2)
  have T3 := Lib.hid (T2.out.1.stored 3 (.bool false))
  have Z3 := Lib.hid (Gx.trans Z2.out T3.out.2)
  have G3 := Lib.hid (Gx.G G2.out Z3.out (by intro i hi; cases hi; exact b0))
  have O3 := Lib.hid (own_Gx HO.out Z3.out m0)
  have k0 := own_cellAt_mid T3.out.1 (j := 0) rfl
  have k1 := own_cellAt_mid T3.out.1 (j := 1) rfl
  have k2 := own_cellAt_mid T3.out.1 (j := 2) rfl
  have k3 := own_cellAt_mid T3.out.1 (j := 3) rfl
  refine bodyPost_ret (v := .tuple #[pV A2 L.length c2 0 1000 false, .int .i64 0]) (by simp [results, Try.results28, go_sem, k0, k1, k2, k3]) rfl ?_
  rw [H.out]
  exact ⟨A2, c2, rfl, G3.out, O3.out⟩

set_option maxHeartbeats 4000000 in
theorem sNewPlayer_any (a : Addr) (n c : Nat) (L : List SCue) (w : World) (hr : Rd w (some a) 6 cCue L) (hn : L.length = n) (hb : n ≤ 4194304) (hwf : ∀ x ∈ L, WfCue x) :
    Calls Try.prog 26 #[.slice (some a) n c] w (ResP w (newR L)) := by
  have B0 := Lib.hid ((G.refl w).alloc (.cells #[.slice none 0 0, .int .i64 0, .int .i64 0, .bool false] 29))
  have KV := Lib.hid (l13Ok_any (some a) n c L (w.alloc (.cells #[.slice none 0 0, .int .i64 0, .int .i64 0, .bool false] 29)) (hr.G B0.out) hn hb hwf)
  obtain ⟨i0, hi, hz0, hz1, hz2⟩ := info_parts infoCue
  have HI := Lib.hid (And.intro hi (And.intro hz0 (And.intro hz1 hz2)))
  clear hi hz0 hz1 hz2
  have HLEN := Lib.hid (show (L.flatMap cCue).length = n * 6 by rw [flat_len cCue_len, hn])
  have HR0 := Lib.hid hr
  have OR := Lib.hid (own_new (w := w) (base := w.heap.size) (n := 1) (cap := 1) (size := 4) (e := 29) (cur := #[.slice none 0 0, .int .i64 0, .int .i64 0, .bool false]) (Nat.le_refl _) (by decide) (by decide) rfl)
  have Hn := Lib.hid hn
  clear hr hn hwf 
  cases hv : vcus L
  · have H := Lib.hid (show newR L = noP 1 by unfold newR; rw [if_pos hv])
    have HV := Lib.hid hv
    clear hv
    go_enter Try.func26, Try.ntmps26
    go_wp2_with fail
    refine KV.out.mono ?_
    rintro e w1 ⟨rfl, g1⟩
    have G1 := Lib.hid (B0.out.trans g1)
    have R1 := Lib.hid (own_G OR.out g1)
    obtain ⟨q0, HQ0⟩ : ∃ q, Hid (w.heap.size = q) := ⟨_, rfl⟩
    have b0 : w.heap.size ≤ q0 := by rw [← HQ0.out]; exact Nat.le_refl _
    rw [HQ0.out] at R1
    clear g1 OR
    rw [HV.out, HQ0.out]
    dsimp only
    have hr0 := own_cellAt_mid R1.out (j := 0) rfl
    have hz0 := own_frozen_of R1.out 0
    have hr1 := own_cellAt_mid R1.out (j := 1) rfl
    have hz1 := own_frozen_of R1.out 1
    have hr2 := own_cellAt_mid R1.out (j := 2) rfl
    have hz2 := own_frozen_of R1.out 2
    have hr3 := own_cellAt_mid R1.out (j := 3) rfl
    have hz3 := own_frozen_of R1.out 3
    go_wp2
    have T0 := Lib.hid (R1.out.stored 0 (.slice none 0 0))
    have Z0 := Lib.hid T0.out.2
    have T1 := Lib.hid (T0.out.1.stored 1 (.int .i64 0))
    have Z1 := Lib.hid (Gx.trans Z0.out T1.out.2)
    have T2 := Lib.hid (T1.out.1.stored 2 (.int .i64 0))
    have Z2 := Lib.hid (Gx.trans Z1.out T2.out.2)
    have T3 := Lib.hid (T2.out.1.stored 3 (.bool false))
    have Z3 := Lib.hid (Gx.trans Z2.out T3.out.2)
    have G2 := Lib.hid (Gx.G G1.out Z3.out (by intro i hi; cases hi; exact b0))
    have k0 := own_cellAt_mid T3.out.1 (j := 0) rfl
    have k1 := own_cellAt_mid T3.out.1 (j := 1) rfl
    have k2 := own_cellAt_mid T3.out.1 (j := 2) rfl
    have k3 := own_cellAt_mid T3.out.1 (j := 3) rfl
    refine bodyPost_ret (v := .tuple #[pV none 0 0 0 0 false, .int .i64 1]) (by simp [results, Try.results26, go_sem, k0, k1, k2, k3]) rfl (resP_no H.out G2.out)
  have H := Lib.hid (show newR L = ⟨L, 0, 1000, false, 0⟩ by unfold newR; rw [if_neg (by rw [hv]; simp)])
  have HV := Lib.hid hv
  clear hv
  go_enter Try.func26, Try.ntmps26
  go_wp2_with fail
  refine KV.out.mono ?_
  rintro e w1 ⟨rfl, g1⟩
  have G1 := Lib.hid (B0.out.trans g1)
  have R1 := Lib.hid (own_G OR.out g1)
  obtain ⟨q0, HQ0⟩ : ∃ q, Hid (w.heap.size = q) := ⟨_, rfl⟩
  have b0 : w.heap.size ≤ q0 := by rw [← HQ0.out]; exact Nat.le_refl _
  rw [HQ0.out] at R1
  clear g1 OR
  rw [HV.out, HQ0.out]
  dsimp only
  have B3 := Lib.hid ((G.refl w1).alloc (.cells #[] 58))
  have HN := Lib.hid (rd_news cCue_len (HR0.out.G (G1.out.trans B3.out)))
  have OL := Lib.hid (World.ownsRow_lit (e := 58) (base := w1.heap.size) (size := 6) w1 #[] 0 (Nat.le_refl _) (by unfold maxLen; omega) rfl)
  have hbs : w1.heap.size ≤ (w1.alloc (.cells #[] 58)).heap.size := B3.out.size
  have l0 := (R1.out.lt q0 rfl).2
  go_wp2_with (at_builtin; refine wpList_append_own _ rfl (.tmp 8) (.tmp 9) 27 rfl w1.heap.size 58 i0 (.agg #[.string ⟨#[]⟩, .int .i64 0, .int .i64 0, .string ⟨#[]⟩, .int .i64 0, .int .i64 0]) 6 64 Try.underlying27 HI.out.1 HI.out.2.1 HI.out.2.2.1 HI.out.2.2.2 rfl (by decide) _ 0 [] rfl OL.out a n c (L.flatMap cCue) rfl HLEN.out HN.out (flat_one cCue_one L) ?c1 ?c2 hbs ?_)
  case c1 => unfold maxLen; omega
  case c2 => omega
  intro v' w2 hown hgrow _
  obtain ⟨A2, c2, rfl⟩ := own_val hown
  have HO := Lib.hid (hown.mono G1.out.size)
  have hlt := hown.lt
  have HW := Lib.hid (show (w1.alloc (.cells #[] 58)).grownBy w2 (some w1.heap.size) from hgrow)
  have G2 := Lib.hid ((G1.out.trans B3.out).grown HW.out (by intro k hk; cases hk; exact G1.out.size))
  have R2 := Lib.hid (own_Gx (own_G R1.out B3.out) HW.out (.inr (by simp [Value.ownBlock]; omega)))
  have m0 : (Value.slice A2 n c2).ownBlock = none ∨ (Value.slice A2 n c2).ownBlock ≠ some q0 := .inr (fun e => by have := (hlt q0 e).1; omega)
  clear hlt hown hgrow HW OL HN B3 hbs R1
  have hr0 := own_cellAt_mid R2.out (j := 0) rfl
  have hz0 := own_frozen_of R2.out 0
  have hr1 := own_cellAt_mid R2.out (j := 1) rfl
  have hz1 := own_frozen_of R2.out 1
  have hr2 := own_cellAt_mid R2.out (j := 2) rfl
  have hz2 := own_frozen_of R2.out 2
  have hr3 := own_cellAt_mid R2.out (j := 3) rfl
  have hz3 := own_frozen_of R2.out 3
  go_wp2
  have T0 := Lib.hid (R2.out.stored 0 (.slice A2 n c2))
  have Z0 := Lib.hid T0.out.2
  have T1 := Lib.hid (T0.out.1.stored 1 (.int .i64 0))
  have Z1 := Lib.hid (Gx.trans Z0.out T1.out.2)
  have T2 := Lib.hid (T1.out.1.stored 2 (.int .i64 1000))
  have Z2 := Lib.hid (Gx.trans Z1.out T2.out.2)
  have T3 := Lib.hid (T2.out.1.stored 3 (.bool false))
  have Z3 := Lib.hid (Gx.trans Z2.out T3.out.2)
  have G3 := Lib.hid (Gx.G G2.out Z3.out (by intro i hi; cases hi; exact b0))
  have O3 := Lib.hid (own_Gx HO.out Z3.out m0)
  have k0 := own_cellAt_mid T3.out.1 (j := 0) rfl
  have k1 := own_cellAt_mid T3.out.1 (j := 1) rfl
  have k2 := own_cellAt_mid T3.out.1 (j := 2) rfl
  have k3 := own_cellAt_mid T3.out.1 (j := 3) rfl
  refine bodyPost_ret (v := .tuple #[pV A2 n c2 0 1000 false, .int .i64 0]) (by simp [results, Try.results26, go_sem, k0, k1, k2, k3]) rfl ?_
  rw [H.out]
  have e := Hn.out
  subst e
  exact ⟨A2, c2, rfl, G3.out, O3.out⟩
end Go.Proofs.Ytdpmnmhblnjhiaa
