/-
  Walks: the law's own functions on Player.
-/
import Derived.Test.YtecakcgkibemaaaDoorEnd
import Derived.Test.YtecakcgkibemaaaDoorOpCue
import Derived.Test.YtecakcgkibemaaaDoorIns
import Derived.Deep.Onto
namespace Go.Proofs.YtecakcgkibemaaaDoor
open Go.RowKit
open Go.ChangeShapes Go.WideShapes Go.ChangeAt

/-- A player's value. -/
abbrev pV (A : Option Addr) (n c : Nat) (t r : Int) (p : Bool) : Value := .agg #[.slice A n c, .int .i64 t, .int .i64 r, .bool p]
theorem infoPlayer : (Tryd.prog.info? 29).map (fun i => (i.zero, i.size, i.bytes)) = some (some (.agg #[.slice none 0 0, .int .i64 0, .int .i64 0, .bool false]), 4, 48) := by kernel_rfl
theorem onePlayer (A : Option Addr) (n c : Nat) (t r : Int) (p : Bool) : (#[.slice A n c, .int .i64 t, .int .i64 r, .bool p] : Array Value).all (·.oneCell') = true := by simp [Value.oneCell']

set_option maxHeartbeats 1000000 in
theorem toPlayer_any (A : Option Addr) (n c : Nat) (t r : Int) (p : Bool) (L : List SCue) (w : World) (hr : Rd w A 6 cCue L) (hn : L.length = n) (hb : n ≤ 1048576) :
    Calls Tryd.prog 7 #[pV A n c t r p] w fun e w' => ∃ g, e = .returned (pV (some ⟨g, 0, none⟩) n n t r p) ∧ w.heap.size ≤ g ∧ g < w'.heap.size ∧ G w w' ∧ w'.ownsRow w.heap.size 45 6 (.slice (some ⟨g, 0, none⟩) n n) n (L.flatMap cCue) := by
  have K := Lib.hid (fun (W : World) (g : G w W) => toCueS_any A n c L W (hr.G g) hn hb)
  clear hr hn
  unfold pV
  have B0 := Lib.hid (((((G.refl w).alloc (.cells #[.slice A n c, .int .i64 t, .int .i64 r, .bool p] 24)).alloc (.cells #[.slice none 0 0, .int .i64 0, .int .i64 0, .bool false] 29)).alloc (.cells #[.slice none 0 0, .int .i64 0, .int .i64 0, .bool false] 29)))
  have D1 := Lib.hid ((((G.refl (w.alloc (.cells #[.slice A n c, .int .i64 t, .int .i64 r, .bool p] 24))).alloc (.cells #[.slice none 0 0, .int .i64 0, .int .i64 0, .bool false] 29)).alloc (.cells #[.slice none 0 0, .int .i64 0, .int .i64 0, .bool false] 29)))
  have d1 := D1.out.cell (p := ⟨w.heap.size, 1, none⟩) (v := .int .i64 t) (by simp [World.cell?_alloc_at])
  have d2 := D1.out.cell (p := ⟨w.heap.size, 2, none⟩) (v := .int .i64 r) (by simp [World.cell?_alloc_at])
  have d3 := D1.out.cell (p := ⟨w.heap.size, 3, none⟩) (v := .bool p) (by simp [World.cell?_alloc_at])
  have OR := Lib.hid (own_G (own_new (w := w.alloc (.cells #[.slice A n c, .int .i64 t, .int .i64 r, .bool p] 24)) (base := w.heap.size) (n := 1) (cap := 1) (size := 4) (e := 29) (cur := #[.slice none 0 0, .int .i64 0, .int .i64 0, .bool false]) (by simp) (by decide) (by decide) rfl) ((G.refl _).alloc (.cells #[.slice none 0 0, .int .i64 0, .int .i64 0, .bool false] 29)))
  have OO := Lib.hid (own_new (w := (w.alloc (.cells #[.slice A n c, .int .i64 t, .int .i64 r, .bool p] 24)).alloc (.cells #[.slice none 0 0, .int .i64 0, .int .i64 0, .bool false] 29)) (base := w.heap.size) (n := 1) (cap := 1) (size := 4) (e := 29) (cur := #[.slice none 0 0, .int .i64 0, .int .i64 0, .bool false]) (by simp; omega) (by decide) (by decide) rfl)
  rw [show (w.alloc (.cells #[.slice A n c, .int .i64 t, .int .i64 r, .bool p] 24)).heap.size = w.heap.size + 1 by simp] at OR
  rw [show ((w.alloc (.cells #[.slice A n c, .int .i64 t, .int .i64 r, .bool p] 24)).alloc (.cells #[.slice none 0 0, .int .i64 0, .int .i64 0, .bool false] 29)).heap.size = w.heap.size + 1 + 1 by simp] at OO
  go_enter Tryd.func7, Tryd.ntmps7
  go_wp2_with fail
  refine (K.out _ B0.out).mono ?_
  rintro e w1 ⟨g, rfl, hg, hg2, g1, ho⟩
  have c1 := g1.cell d1
  have c2 := g1.cell d2
  have c3 := g1.cell d3
  have G1 := Lib.hid (B0.out.trans g1)
  have R1 := Lib.hid (own_G OR.out g1)
  have O1 := Lib.hid (own_G OO.out g1)
  have HO := Lib.hid (ho.mono B0.out.size)
  have hs : w.heap.size + 1 + 1 + 1 ≤ g := by simpa using hg
  clear hg d1 d2 d3 D1 OR OO K g1 ho
  obtain ⟨q0, HQ0⟩ : ∃ q, Hid (w.heap.size = q) := ⟨_, rfl⟩
  obtain ⟨q1, HQ1⟩ : ∃ q, Hid (w.heap.size + 1 = q) := ⟨_, rfl⟩
  obtain ⟨q2, HQ2⟩ : ∃ q, Hid (w.heap.size + 1 + 1 = q) := ⟨_, rfl⟩
  have hs2 : q2 + 1 ≤ g := by rw [← HQ2.out]; exact hs
  have hs1 : q1 + 1 ≤ g := by rw [← HQ1.out]; omega
  have b1 : w.heap.size ≤ q1 := by rw [← HQ1.out]; omega
  have b2 : w.heap.size ≤ q2 := by rw [← HQ2.out]; omega
  have n12 : q1 ≠ q2 := by rw [← HQ2.out, ← HQ1.out]; omega
  clear hs
  rw [HQ1.out] at R1
  rw [HQ2.out] at O1
  rw [HQ0.out] at c1 c2 c3
  rw [HQ2.out, HQ1.out, HQ0.out]
  obtain ⟨u0, hu0⟩ := Option.isSome_iff_exists.1 (own_there O1.out (o := 0) (m := 4) (by omega) 0 (by omega)).1
  have hf0 := own_frozen_of O1.out 0
  obtain ⟨u1, hu1⟩ := Option.isSome_iff_exists.1 (own_there O1.out (o := 0) (m := 4) (by omega) 1 (by omega)).1
  have hf1 := own_frozen_of O1.out 1
  obtain ⟨u2, hu2⟩ := Option.isSome_iff_exists.1 (own_there O1.out (o := 0) (m := 4) (by omega) 2 (by omega)).1
  have hf2 := own_frozen_of O1.out 2
  obtain ⟨u3, hu3⟩ := Option.isSome_iff_exists.1 (own_there O1.out (o := 0) (m := 4) (by omega) 3 (by omega)).1
  have hf3 := own_frozen_of O1.out 3
  simp only [Nat.zero_add, Nat.add_zero] at hu0 hu1 hu2 hu3
  have hr0 := own_cellAt_mid R1.out (j := 0) rfl
  have hz0 := own_frozen_of R1.out 0
  have hr1 := own_cellAt_mid R1.out (j := 1) rfl
  have hz1 := own_frozen_of R1.out 1
  have hr2 := own_cellAt_mid R1.out (j := 2) rfl
  have hz2 := own_frozen_of R1.out 2
  have hr3 := own_cellAt_mid R1.out (j := 3) rfl
  have hz3 := own_frozen_of R1.out 3
  dsimp only
  go_wp2
  have S0 := Lib.hid (O1.out.stored 0 (.slice (some ⟨g, 0, none⟩) n n))
  have Y0 := Lib.hid S0.out.2
  have S1 := Lib.hid (S0.out.1.stored 1 (.int .i64 t))
  have Y1 := Lib.hid (Gx.trans Y0.out S1.out.2)
  have S2 := Lib.hid (S1.out.1.stored 2 (.int .i64 r))
  have Y2 := Lib.hid (Gx.trans Y1.out S2.out.2)
  have S3 := Lib.hid (S2.out.1.stored 3 (.bool p))
  have Y3 := Lib.hid (Gx.trans Y2.out S3.out.2)
  have R4 := Lib.hid (own_Gx R1.out Y3.out (.inr (by simp [Value.ownBlock, n12])))
  have T0 := Lib.hid (R4.out.stored 0 (.slice (some ⟨g, 0, none⟩) n n))
  have Z0 := Lib.hid T0.out.2
  have T1 := Lib.hid (T0.out.1.stored 1 (.int .i64 t))
  have Z1 := Lib.hid (Gx.trans Z0.out T1.out.2)
  have T2 := Lib.hid (T1.out.1.stored 2 (.int .i64 r))
  have Z2 := Lib.hid (Gx.trans Z1.out T2.out.2)
  have T3 := Lib.hid (T2.out.1.stored 3 (.bool p))
  have Z3 := Lib.hid (Gx.trans Z2.out T3.out.2)
  have HO2 := Lib.hid (own_Gx (own_Gx HO.out Y3.out (.inr (by simp [Value.ownBlock]; omega))) Z3.out (.inr (by simp [Value.ownBlock]; omega)))
  have G2 := Lib.hid (Gx.G (Gx.G G1.out Y3.out (by intro i hi; cases hi; exact b2)) Z3.out (by intro i hi; cases hi; exact b1))
  have hgs : w.heap.size ≤ g := by omega
  have k0 := own_cellAt_mid T3.out.1 (j := 0) rfl
  have k1 := own_cellAt_mid T3.out.1 (j := 1) rfl
  have k2 := own_cellAt_mid T3.out.1 (j := 2) rfl
  have k3 := own_cellAt_mid T3.out.1 (j := 3) rfl
  refine bodyPost_ret (v := .agg #[.slice (some ⟨g, 0, none⟩) n n, .int .i64 t, .int .i64 r, .bool p]) (by simp [results, Tryd.results7, go_sem, k0, k1, k2, k3]) rfl ⟨g, rfl, hgs, ?_, G2.out, HO2.out⟩
  exact (HO2.out.lt g rfl).2

set_option maxHeartbeats 1000000 in
theorem szPlayer_any (A : Option Addr) (n c : Nat) (t r : Int) (p : Bool) (L : List SCue) (left : Int) (w : World) (hr : Rd w A 6 cCue L) (hn : L.length = n) (hwf : ∀ x ∈ L, WfCue x) (hm : n ≤ maxLen) (h0 : 0 ≤ left) (h1 : left ≤ 4194304) :
    Calls Tryd.prog 5 #[pV A n c t r p, .int .i64 left] w fun e w' => e = .returned (.int .i64 (szR (left - n - tot szCue L))) ∧ G w w' := by
  have K := Lib.hid (fun (W : World) (g : G w W) => szCueS_any A n c L left W (hr.G g) hn hwf hm h0 h1)
  have B0 := Lib.hid ((G.refl w).alloc (.cells #[.slice A n c, .int .i64 t, .int .i64 r, .bool p] 24))
  clear hr hn hwf hm h0 h1
  obtain ⟨y, HY⟩ : ∃ y, Hid (left - n - tot szCue L = y) := ⟨_, rfl⟩
  rw [HY.out] at K ⊢
  unfold pV
  by_cases q : y < 0
  · have HZ := Lib.hid (szR_neg q)
    go_enter Tryd.func5, Tryd.ntmps5
    go_wp2_with fail
    refine (K.out _ B0.out).mono ?_
    rintro e w1 ⟨rfl, g1⟩
    have G1 := Lib.hid (B0.out.trans g1)
    clear g1 K B0
    rw [HZ.out]
    dsimp only
    go_wp2
    go_ret
    exact ⟨ret_int HZ.out.symm, G1.out⟩
  · have HZ := Lib.hid (szR_pos (y := y) (by omega))
    go_enter Tryd.func5, Tryd.ntmps5
    go_wp2_with fail
    refine (K.out _ B0.out).mono ?_
    rintro e w1 ⟨rfl, g1⟩
    have G1 := Lib.hid (B0.out.trans g1)
    clear g1 K B0
    rw [HZ.out]
    dsimp only
    go_wp2
    go_ret
    exact ⟨ret_int HZ.out.symm, G1.out⟩

set_option maxHeartbeats 1000000 in
theorem eqPlayer_same (A B : Option Addr) (n c d : Nat) (t r : Int) (p : Bool) (L : List SCue) (w : World) (h1 : Rd w A 6 cCue L) (h2 : Rd w B 6 cCue L) (hn : L.length = n) (hb : n ≤ 4194304) :
    Calls Tryd.prog 9 #[pV A n c t r p, pV B n d t r p] w fun e w' => e = .returned (.bool true) ∧ G w w' := by
  have K := Lib.hid (fun (W : World) (g : G w W) => eqCueS_same A B n c d L W (h1.G g) (h2.G g) hn hb)
  have B0 := Lib.hid (((G.refl w).alloc (.cells #[.slice A n c, .int .i64 t, .int .i64 r, .bool p] 29)).alloc (.cells #[.slice B n d, .int .i64 t, .int .i64 r, .bool p] 29))
  have d1 := ((G.refl (w.alloc (.cells #[.slice A n c, .int .i64 t, .int .i64 r, .bool p] 29))).alloc (.cells #[.slice B n d, .int .i64 t, .int .i64 r, .bool p] 29)).cell (p := ⟨w.heap.size, 1, none⟩) (v := .int .i64 t) (by simp [World.cell?_alloc_at])
  have d2 := ((G.refl (w.alloc (.cells #[.slice A n c, .int .i64 t, .int .i64 r, .bool p] 29))).alloc (.cells #[.slice B n d, .int .i64 t, .int .i64 r, .bool p] 29)).cell (p := ⟨w.heap.size, 2, none⟩) (v := .int .i64 r) (by simp [World.cell?_alloc_at])
  have d3 := ((G.refl (w.alloc (.cells #[.slice A n c, .int .i64 t, .int .i64 r, .bool p] 29))).alloc (.cells #[.slice B n d, .int .i64 t, .int .i64 r, .bool p] 29)).cell (p := ⟨w.heap.size, 3, none⟩) (v := .bool p) (by simp [World.cell?_alloc_at])
  have e1 : ((w.alloc (.cells #[.slice A n c, .int .i64 t, .int .i64 r, .bool p] 29)).alloc (.cells #[.slice B n d, .int .i64 t, .int .i64 r, .bool p] 29)).cell? ⟨w.heap.size + 1, 1, none⟩ = some (.int .i64 t) := (World.cell?_alloc_at _ _ _ 1 (by simp)).trans rfl
  have e2 : ((w.alloc (.cells #[.slice A n c, .int .i64 t, .int .i64 r, .bool p] 29)).alloc (.cells #[.slice B n d, .int .i64 t, .int .i64 r, .bool p] 29)).cell? ⟨w.heap.size + 1, 2, none⟩ = some (.int .i64 r) := (World.cell?_alloc_at _ _ _ 2 (by simp)).trans rfl
  have e3 : ((w.alloc (.cells #[.slice A n c, .int .i64 t, .int .i64 r, .bool p] 29)).alloc (.cells #[.slice B n d, .int .i64 t, .int .i64 r, .bool p] 29)).cell? ⟨w.heap.size + 1, 3, none⟩ = some (.bool p) := (World.cell?_alloc_at _ _ _ 3 (by simp)).trans rfl
  clear h1 h2 hn
  unfold pV
  go_enter Tryd.func9, Tryd.ntmps9
  go_wp2_with fail
  refine (K.out _ B0.out).mono ?_
  rintro e w1 ⟨rfl, g1⟩
  have G1 := Lib.hid (B0.out.trans g1)
  replace d1 := g1.cell d1
  replace d2 := g1.cell d2
  replace d3 := g1.cell d3
  replace e1 := g1.cell e1
  replace e2 := g1.cell e2
  replace e3 := g1.cell e3
  clear g1 K B0
  dsimp only
  go_wp2
  go_ret
  exact ⟨rfl, G1.out⟩
end Go.Proofs.YtecakcgkibemaaaDoor
