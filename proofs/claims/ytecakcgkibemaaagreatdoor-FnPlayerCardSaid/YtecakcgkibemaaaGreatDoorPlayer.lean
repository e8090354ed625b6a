/-
  Walks: valid players, by both texts.
-/
import Derived.Test.YtecakcgkibemaaaGreatDoorStPlayer
namespace Go.Proofs.YtecakcgkibemaaaGreatDoor
open Go.RowKit

def vplB (L : List SCue) (t r : Int) : Bool := vcus L && inB t 0 (endL L) && inB r 100 4000

set_option maxHeartbeats 1000000 in
theorem iValidPlayer_any (A : Option Addr) (n c : Nat) (t r : Int) (p : Bool) (L : List SCue) (w : World) (hr : Rd w A 6 cCue L) (hn : L.length = n) (hb : n ≤ 4194304) (hcap : n ≤ c) (hwf : ∀ x ∈ L, WfCue x) :
    Calls Tryz.prog 19 #[pV A n c t r p] w fun e w' => e = .returned (.bool (vplB L t r)) ∧ G w w' := by
  have K := Lib.hid (fun (W : World) (g : G w W) => ShowEnd_any A n c L W (hr.G g) hn hb hcap hwf)
  have B0 := Lib.hid ((G.refl w).alloc (.cells #[.slice A n c, .int .i64 t, .int .i64 r, .bool p] 25))
  have d1 : (w.alloc (.cells #[.slice A n c, .int .i64 t, .int .i64 r, .bool p] 25)).cell? ⟨w.heap.size, 1, none⟩ = some (.int .i64 t) := (World.cell?_alloc_at _ _ _ 1 rfl).trans rfl
  have d2 : (w.alloc (.cells #[.slice A n c, .int .i64 t, .int .i64 r, .bool p] 25)).cell? ⟨w.heap.size, 2, none⟩ = some (.int .i64 r) := (World.cell?_alloc_at _ _ _ 2 rfl).trans rfl
  clear hr hn hwf hcap
  unfold pV
  cases hv : vcus L
  · have H := Lib.hid (show vplB L t r = false by unfold vplB; rw [hv]; simp)
    have HE := Lib.hid (show showEnd L = (0, 1) by unfold showEnd; rw [hv]; simp)
    clear hv
    go_enter Tryz.func19, Tryz.ntmps19
    go_wp2_with fail
    refine (K.out _ B0.out).mono ?_
    rintro e w1 ⟨rfl, g1⟩
    have G1 := Lib.hid (B0.out.trans g1)
    replace d1 := g1.cell d1
    replace d2 := g1.cell d2
    clear g1 K B0
    rw [HE.out]
    dsimp only
    go_wp2
    go_ret
    exact ⟨ret_bool H.out.symm, G1.out⟩
  have HE := Lib.hid (show showEnd L = (endL L, 0) by unfold showEnd; rw [hv]; simp)
  have HF := Lib.hid (show vplB L t r = (inB t 0 (endL L) && inB r 100 4000) by unfold vplB; rw [hv]; simp)
  clear hv
  have K1 := Lib.hid (fun W => within_any t 0 (endL L) W)
  have K2 := Lib.hid (fun W => within_any r 100 4000 W)
  cases ht : inB t 0 (endL L)
  · have H := Lib.hid (show vplB L t r = false by rw [HF.out, ht]; simp)
    rw [ht] at K1
    clear ht HF
    go_enter Tryz.func19, Tryz.ntmps19
    go_wp2_with fail
    refine (K.out _ B0.out).mono ?_
    rintro e w1 ⟨rfl, g1⟩
    have G1 := Lib.hid (B0.out.trans g1)
    replace d1 := g1.cell d1
    replace d2 := g1.cell d2
    clear g1 K B0
    rw [HE.out]
    dsimp only
    go_wp2_with (first | (go_at_call 28; (with_reducible refine (K1.out _).mono ?_); rintro e w2 ⟨rfl, rfl⟩))
    go_ret
    exact ⟨ret_bool H.out.symm, G1.out⟩
  · have H := Lib.hid (show vplB L t r = inB r 100 4000 by rw [HF.out, ht]; simp)
    rw [ht] at K1
    clear ht HF
    go_enter Tryz.func19, Tryz.ntmps19
    go_wp2_with fail
    refine (K.out _ B0.out).mono ?_
    rintro e w1 ⟨rfl, g1⟩
    have G1 := Lib.hid (B0.out.trans g1)
    replace d1 := g1.cell d1
    replace d2 := g1.cell d2
    clear g1 K B0
    rw [HE.out]
    dsimp only
    go_wp2_with (first | (go_at_call 28; (with_reducible refine (K1.out _).mono ?_); rintro e w2 ⟨rfl, rfl⟩) | (go_at_call 28; (with_reducible refine (K2.out _).mono ?_); rintro e w2 ⟨rfl, rfl⟩))
    go_ret
    exact ⟨ret_bool H.out.symm, G1.out⟩

end Go.Proofs.YtecakcgkibemaaaGreatDoor
