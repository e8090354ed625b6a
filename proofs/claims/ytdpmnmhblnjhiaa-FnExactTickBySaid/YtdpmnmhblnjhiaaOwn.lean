/-
  Walks: a player of its own (the reference's).
-/
import Derived.Test.YtdpmnmhblnjhiaaSwitch
namespace Go.Proofs.Ytdpmnmhblnjhiaa
open Go.RowKit

set_option maxHeartbeats 2000000 in
theorem l17Own_any (b : Nat) (a : Addr) (n c : Nat) (t r : Int) (p : Bool) (L : List SCue) (w : World) (hr : Rd w (some a) 6 cCue L) (hn : L.length = n) (hb : n ≤ 4194304) (hc0 : w.cell? ⟨b, 0, none⟩ = some (.slice (some a) n c)) (hc1 : w.cell? ⟨b, 1, none⟩ = some (.int .i64 t)) (hc2 : w.cell? ⟨b, 2, none⟩ = some (.int .i64 r)) (hc3 : w.cell? ⟨b, 3, none⟩ = some (.bool p)) :
    Calls Try.prog 69 #[.pointer (some ⟨b, 0, none⟩)] w fun e w' => ∃ A' c', e = .returned (pV A' n c' t r p) ∧ G w w' ∧ w'.ownsRow w.heap.size 58 6 (.slice A' n c') n (L.flatMap cCue) := by
  obtain ⟨i0, hi, hz0, hz1, hz2⟩ := info_parts infoCue
  have HI := Lib.hid (And.intro hi (And.intro hz0 (And.intro hz1 hz2)))
  clear hi hz0 hz1 hz2
  have B3 := Lib.hid ((((G.refl w).alloc (.cells #[.slice none 0 0, .int .i64 0, .int .i64 0, .bool false] 29)).alloc (.cells #[.slice (some a) n c, .int .i64 t, .int .i64 r, .bool p] 29)).alloc (.cells #[] 58))
  have HN := Lib.hid (rd_news cCue_len (hr.G B3.out))
  have HLEN := Lib.hid (show (L.flatMap cCue).length = n * 6 by rw [flat_len cCue_len, hn])
  have hd0 := ((G.refl w).alloc (.cells #[.slice none 0 0, .int .i64 0, .int .i64 0, .bool false] 29)).cell hc0
  have hd1 := ((G.refl w).alloc (.cells #[.slice none 0 0, .int .i64 0, .int .i64 0, .bool false] 29)).cell hc1
  have hd2 := ((G.refl w).alloc (.cells #[.slice none 0 0, .int .i64 0, .int .i64 0, .bool false] 29)).cell hc2
  have hd3 := ((G.refl w).alloc (.cells #[.slice none 0 0, .int .i64 0, .int .i64 0, .bool false] 29)).cell hc3
  replace hc0 := B3.out.cell hc0
  clear hc1 hc2 hc3
  have OL := Lib.hid (World.ownsRow_lit (e := 58) (base := w.heap.size + 1 + 1) (size := 6) ((w.alloc (.cells #[.slice none 0 0, .int .i64 0, .int .i64 0, .bool false] 29)).alloc (.cells #[.slice (some a) n c, .int .i64 t, .int .i64 r, .bool p] 29)) #[] 0 (by simp) (by unfold maxLen; omega) rfl)
  rw [show ((w.alloc (.cells #[.slice none 0 0, .int .i64 0, .int .i64 0, .bool false] 29)).alloc (.cells #[.slice (some a) n c, .int .i64 t, .int .i64 r, .bool p] 29)).heap.size = w.heap.size + 1 + 1 by simp] at OL
  have OR := Lib.hid (own_G (own_new (w := w) (base := w.heap.size) (n := 1) (cap := 1) (size := 4) (e := 29) (cur := #[.slice none 0 0, .int .i64 0, .int .i64 0, .bool false]) (Nat.le_refl _) (by decide) (by decide) rfl) (((G.refl _).alloc (.cells #[.slice (some a) n c, .int .i64 t, .int .i64 r, .bool p] 29)).alloc (.cells #[] 58)))
  have OO := Lib.hid (own_G (own_new (w := w.alloc (.cells #[.slice none 0 0, .int .i64 0, .int .i64 0, .bool false] 29)) (base := w.heap.size) (n := 1) (cap := 1) (size := 4) (e := 29) (cur := #[.slice (some a) n c, .int .i64 t, .int .i64 r, .bool p]) (by simp) (by decide) (by decide) rfl) ((G.refl _).alloc (.cells #[] 58)))
  rw [show (w.alloc (.cells #[.slice none 0 0, .int .i64 0, .int .i64 0, .bool false] 29)).heap.size = w.heap.size + 1 by simp] at OO
  have hbs : w.heap.size + 1 + 1 ≤ (((w.alloc (.cells #[.slice none 0 0, .int .i64 0, .int .i64 0, .bool false] 29)).alloc (.cells #[.slice (some a) n c, .int .i64 t, .int .i64 r, .bool p] 29)).alloc (.cells #[] 58)).heap.size := by simp
  have l0 := (OR.out.lt w.heap.size rfl).2
  have l1 := (OO.out.lt (w.heap.size + 1) rfl).2
  clear hr hn
  go_enter Try.func69, Try.ntmps69
  go_wp2_with (at_builtin; refine wpList_append_own _ rfl (.tmp 7) (.tmp 11) 27 rfl (w.heap.size + 1 + 1) 58 i0 (.agg #[.string ⟨#[]⟩, .int .i64 0, .int .i64 0, .string ⟨#[]⟩, .int .i64 0, .int .i64 0]) 6 64 Try.underlying27 HI.out.1 HI.out.2.1 HI.out.2.2.1 HI.out.2.2.2 rfl (by decide) _ 0 [] rfl OL.out a n c (L.flatMap cCue) rfl HLEN.out HN.out (flat_one cCue_one L) ?c1 ?c2 hbs ?_)
  case c1 => unfold maxLen; omega
  case c2 => omega
  intro v' w1 hown hgrow _
  obtain ⟨A', c', rfl⟩ := own_val hown
  have HO := Lib.hid hown
  have hlt := hown.lt
  have HW := Lib.hid (show (((w.alloc (.cells #[.slice none 0 0, .int .i64 0, .int .i64 0, .bool false] 29)).alloc (.cells #[.slice (some a) n c, .int .i64 t, .int .i64 r, .bool p] 29)).alloc (.cells #[] 58)).grownBy w1 (some (w.heap.size + 1 + 1)) from hgrow)
  have G1 := Lib.hid (B3.out.grown HW.out (by intro k hk; cases hk; omega))
  have R1 := Lib.hid (own_Gx OR.out HW.out (.inr (by simp [Value.ownBlock]; omega)))
  have O1 := Lib.hid (own_Gx OO.out HW.out (.inr (by simp [Value.ownBlock])))
  obtain ⟨q0, HQ0⟩ : ∃ q, Hid (w.heap.size = q) := ⟨_, rfl⟩
  obtain ⟨q1, HQ1⟩ : ∃ q, Hid (w.heap.size + 1 = q) := ⟨_, rfl⟩
  have b0 : w.heap.size ≤ q0 := by rw [← HQ0.out]; exact Nat.le_refl _
  have b1 : w.heap.size ≤ q1 := by rw [← HQ1.out]; omega
  have n01 : q0 ≠ q1 := by rw [← HQ1.out, ← HQ0.out]; omega
  have hne : ∀ q, q < w.heap.size + 1 + 1 → (Value.slice A' n c').ownBlock = none ∨ (Value.slice A' n c').ownBlock ≠ some q := fun q hq => .inr (fun e => by have := (hlt q e).1; omega)
  have m0 := hne q0 (by rw [← HQ0.out]; omega)
  have m1 := hne q1 (by rw [← HQ1.out]; omega)
  rw [HQ0.out] at R1
  rw [HQ1.out] at O1
  clear hne hlt hown hgrow HW OR OO OL HN B3 hbs hc0 hd0 hd1 hd2 hd3 l0 l1
  rw [HQ1.out, HQ0.out]
  have hr0 := own_cellAt_mid R1.out (j := 0) rfl
  have hz0 := own_frozen_of R1.out 0
  have hr1 := own_cellAt_mid R1.out (j := 1) rfl
  have hz1 := own_frozen_of R1.out 1
  have hr2 := own_cellAt_mid R1.out (j := 2) rfl
  have hz2 := own_frozen_of R1.out 2
  have hr3 := own_cellAt_mid R1.out (j := 3) rfl
  have hz3 := own_frozen_of R1.out 3
  have hc0 := own_cellAt_mid O1.out (j := 0) rfl
  have hy0 := own_frozen_of O1.out 0
  have hc1 := own_cellAt_mid O1.out (j := 1) rfl
  have hy1 := own_frozen_of O1.out 1
  have hc2 := own_cellAt_mid O1.out (j := 2) rfl
  have hy2 := own_frozen_of O1.out 2
  have hc3 := own_cellAt_mid O1.out (j := 3) rfl
  have hy3 := own_frozen_of O1.out 3
  go_wp2
  have S0 := Lib.hid (O1.out.stored 0 ((.slice A' n c')))
  have Y0 := Lib.hid S0.out.2
  have R3 := Lib.hid (own_Gx R1.out Y0.out (.inr (by simp [Value.ownBlock]; omega)))
  have T0 := Lib.hid (R3.out.stored 0 ((.slice A' n c')))
  have Z0 := Lib.hid T0.out.2
  have T1 := Lib.hid (T0.out.1.stored 1 (.int .i64 t))
  have Z1 := Lib.hid (Gx.trans Z0.out T1.out.2)
  have T2 := Lib.hid (T1.out.1.stored 2 (.int .i64 r))
  have Z2 := Lib.hid (Gx.trans Z1.out T2.out.2)
  have T3 := Lib.hid (T2.out.1.stored 3 (.bool p))
  have Z3 := Lib.hid (Gx.trans Z2.out T3.out.2)
  have G3 := Lib.hid (Gx.G (Gx.G G1.out Y0.out (by intro i hi; cases hi; exact b1)) Z3.out (by intro i hi; cases hi; exact b0))
  have O3 := Lib.hid (own_Gx (own_Gx HO.out Y0.out m1) Z3.out m0)
  have k0 := own_cellAt_mid T3.out.1 (j := 0) rfl
  have k1 := own_cellAt_mid T3.out.1 (j := 1) rfl
  have k2 := own_cellAt_mid T3.out.1 (j := 2) rfl
  have k3 := own_cellAt_mid T3.out.1 (j := 3) rfl
  refine bodyPost_ret (v := pV A' n c' t r p) (by simp [results, Try.results69, go_sem, k0, k1, k2, k3]) rfl ⟨A', c', rfl, G3.out, O3.out.mono (by omega)⟩
end Go.Proofs.Ytdpmnmhblnjhiaa
