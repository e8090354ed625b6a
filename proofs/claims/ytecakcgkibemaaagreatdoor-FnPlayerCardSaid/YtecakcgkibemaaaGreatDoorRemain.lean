/-
  Walks: how long a player plays on, by both texts.
-/
import Derived.Test.YtecakcgkibemaaaGreatDoorPlayer
namespace Go.Proofs.YtecakcgkibemaaaGreatDoor
open Go.RowKit

def remR (L : List SCue) (t r : Int) : Int × Int := if vplB L t r = true then (((endL L - t) * 1000 + r - 1) / r, 0) else (0, 1)
theorem vplB_bd {L : List SCue} {t r : Int} (h : vplB L t r = true) : vcus L = true ∧ 0 ≤ t ∧ t ≤ endL L ∧ 100 ≤ r ∧ r ≤ 4000 ∧ endL L ≤ 7200000 := by
  simp only [vplB, Bool.and_eq_true, inB_iff] at h
  have := endL_all h.1.1
  exact ⟨h.1.1, h.1.2.1, h.1.2.2, h.2.1, h.2.2, this.2⟩
theorem up_bd {a b : Int} (ha : 0 ≤ a) (ha1 : a ≤ 100000000000) (hb : 1 ≤ b) (hb1 : b ≤ 4000) : 0 ≤ (a + b - 1) / b ∧ (a + b - 1) / b ≤ 100000004000 := by
  refine ⟨Int.ediv_nonneg (by omega) (by omega), ?_⟩
  have := Int.ediv_le_self b (show 0 ≤ a + b - 1 by omega)
  omega

set_option maxHeartbeats 400000 in
theorem quotientUp_any (a b : Int) (ha : 0 ≤ a) (ha1 : a ≤ 100000000000) (hb : 1 ≤ b) (hb1 : b ≤ 4000) (w : World) :
    Calls Tryz.prog 25 #[.int .i64 a, .int .i64 b] w fun e w' => e = .returned (.int .i64 ((a + b - 1) / b)) ∧ w = w' := by
  have hq := up_bd ha ha1 hb hb1
  have hb2 : b ≠ 0 := by omega
  have hb3 : ¬ b < 0 := by omega
  go_enter Tryz.func25, Tryz.ntmps25
  go_wp2
  go_ret
  exact ⟨rfl, rfl⟩

set_option maxHeartbeats 1000000 in
theorem iRemainingTime_any (A : Option Addr) (n c : Nat) (t r : Int) (p : Bool) (L : List SCue) (w : World) (hr : Rd w A 6 cCue L) (hn : L.length = n) (hb : n ≤ 4194304) (hcap : n ≤ c) (hwf : ∀ x ∈ L, WfCue x) :
    Calls Tryz.prog 10 #[pV A n c t r p] w fun e w' => e = .returned (.tuple #[.int .i64 (remR L t r).1, .int .i64 (remR L t r).2]) ∧ G w w' := by
  have KV := Lib.hid (fun (W : World) (g : G w W) => iValidPlayer_any A n c t r p L W (hr.G g) hn hb hcap hwf)
  have KE := Lib.hid (fun (W : World) (g : G w W) => ShowEnd_any A n c L W (hr.G g) hn hb hcap hwf)
  have B0 := Lib.hid ((G.refl w).alloc (.cells #[.slice A n c, .int .i64 t, .int .i64 r, .bool p] 25))
  have d0 : (w.alloc (.cells #[.slice A n c, .int .i64 t, .int .i64 r, .bool p] 25)).cell? ⟨w.heap.size, 0, none⟩ = some (.slice A n c) := (World.cell?_alloc_at _ _ _ 0 rfl).trans rfl
  have d1 : (w.alloc (.cells #[.slice A n c, .int .i64 t, .int .i64 r, .bool p] 25)).cell? ⟨w.heap.size, 1, none⟩ = some (.int .i64 t) := (World.cell?_alloc_at _ _ _ 1 rfl).trans rfl
  have d2 : (w.alloc (.cells #[.slice A n c, .int .i64 t, .int .i64 r, .bool p] 25)).cell? ⟨w.heap.size, 2, none⟩ = some (.int .i64 r) := (World.cell?_alloc_at _ _ _ 2 rfl).trans rfl
  have d3 : (w.alloc (.cells #[.slice A n c, .int .i64 t, .int .i64 r, .bool p] 25)).cell? ⟨w.heap.size, 3, none⟩ = some (.bool p) := (World.cell?_alloc_at _ _ _ 3 rfl).trans rfl
  clear hr hn hwf hcap
  unfold pV
  cases hv : vplB L t r
  · have H := Lib.hid (show remR L t r = (0, 1) by unfold remR; rw [hv]; simp)
    have HV := Lib.hid hv
    clear hv
    go_enter Tryz.func10, Tryz.ntmps10
    go_wp2_with fail
    refine (KV.out _ B0.out).mono ?_
    rintro e w1 ⟨rfl, g1⟩
    have G1 := Lib.hid (B0.out.trans g1)
    replace d0 := g1.cell d0
    replace d1 := g1.cell d1
    replace d2 := g1.cell d2
    replace d3 := g1.cell d3
    clear g1 B0
    rw [HV.out]
    dsimp only
    go_wp2
    go_ret2
    exact ⟨ret_ii H.out, G1.out⟩
  have H := Lib.hid (show remR L t r = (((endL L - t) * 1000 + r - 1) / r, 0) by unfold remR; rw [hv]; simp)
  obtain ⟨hvc, hb0, hb1, hb2, hb3, hb4⟩ := vplB_bd hv
  have HE := Lib.hid (show showEnd L = (endL L, 0) by unfold showEnd; rw [hvc]; simp)
  have HV := Lib.hid hv
  clear hv hvc
  obtain ⟨m, HM⟩ : ∃ m, Hid (endL L = m) := ⟨_, rfl⟩
  rw [HM.out] at H HE hb1 hb4
  have KQ := Lib.hid (fun W => quotientUp_any ((m - t) * 1000) r (by omega) (by omega) (by omega) (by omega) W)
  go_enter Tryz.func10, Tryz.ntmps10
  go_wp2_with fail
  refine (KV.out _ B0.out).mono ?_
  rintro e w1 ⟨rfl, g1⟩
  have G1 := Lib.hid (B0.out.trans g1)
  replace d0 := g1.cell d0
  replace d1 := g1.cell d1
  replace d2 := g1.cell d2
  replace d3 := g1.cell d3
  clear g1 B0
  rw [HV.out]
  dsimp only
  go_wp2_with fail
  refine (KE.out _ G1.out).mono ?_
  rintro e w2 ⟨rfl, g2⟩
  have G2 := Lib.hid (G1.out.trans g2)
  replace d0 := g2.cell d0
  replace d1 := g2.cell d1
  replace d2 := g2.cell d2
  replace d3 := g2.cell d3
  clear g2
  rw [HE.out]
  dsimp only
  go_wp2_with (first | (go_at_call 25; refine (KQ.out _).mono ?_; rintro e w3 ⟨rfl, rfl⟩))
  go_ret2
  exact ⟨ret_ii H.out, G2.out⟩

end Go.Proofs.YtecakcgkibemaaaGreatDoor
