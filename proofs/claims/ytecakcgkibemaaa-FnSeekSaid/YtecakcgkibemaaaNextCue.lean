/-
  Walks: the next cue of a player, by both texts.
-/
import Derived.Test.YtecakcgkibemaaaPlayer
namespace Go.Proofs.Ytecakcgkibemaaa
open Go.RowKit

def geT (t : Int) (x : SCue) : Bool := decide (t ≤ x.Time)
def ncR (L : List SCue) (t r : Int) : Int × Int := if vplB L t r = true then (if idxOf (geT t) L < 0 then (0, 3) else (idxOf (geT t) L, 0)) else (0, 1)

set_option maxHeartbeats 1000000 in
theorem ncClosure_any (t : Int) (x : SCue) (b : Nat) (w : World) (hc : w.cell? ⟨b, 1, none⟩ = some (.int .i64 t)) :
    Calls Try.prog 27 #[.agg #[.string x.Id, .int .i64 x.Time, .int .i64 x.Length, .string x.Target, .int .i64 x.Action, .int .i64 x.Value], .pointer (some ⟨b, 0, none⟩)] w fun e w' => e = .returned (.bool (geT t x)) ∧ G w w' := by
  have d := ((G.refl w).alloc (.cells #[.string x.Id, .int .i64 x.Time, .int .i64 x.Length, .string x.Target, .int .i64 x.Action, .int .i64 x.Value] 44)).cell hc
  clear hc
  go_enter Try.func27, Try.ntmps27
  go_wp2
  go_ret
  exact ⟨rfl, (G.refl _).alloc _⟩

set_option maxRecDepth 20000 in
set_option maxHeartbeats 2000000 in
theorem ncIx_any (t : Int) (b : Nat) (A : Option Addr) (n c : Nat) (L : List SCue) (w : World) (hr : Rd w A 6 cCue L) (hn : L.length = n) (hb : n ≤ 4194304) (hc : w.cell? ⟨b, 1, none⟩ = some (.int .i64 t)) :
    Calls Try.prog 26 #[.slice A n c, .func (.func 27) #[] #[.pointer (some ⟨b, 0, none⟩)]] w fun e w' => e = .returned (.int .i64 (idxOf (geT t) L)) ∧ G w w' := by
  have Hn := Lib.hid hn
  have HR := Lib.hid hr
  have HC := Lib.hid hc
  clear hr hn hc
  go_enter Try.func26, Try.ntmps26
  go_wp2
  go_loopw [8] (fun i wr => ∃ k : Nat, k ≤ n ∧ i = .int .i64 k ∧ (L.take k).all (fun y => !(geT t) y) = true ∧ G w wr) (fun i _ => n - (intOf i).toNat)
  case atStart => exact ⟨0, Nat.zero_le _, rfl, by simp, G.refl _⟩
  case round =>
    obtain ⟨k, hk, rfl, ha, hg⟩ := hrel
    have HA := Lib.hid ha
    have G0 := Lib.hid hg
    clear ha hg
    by_cases hlt : k < n
    · obtain ⟨b1, o, x, rfl, hx, hc0, hc1, hc2, hc3, hc4, hc5⟩ := (HR.out.G G0.out).Cue (k := k) (by rw [Hn.out]; exact hlt)
      have HX := Lib.hid hx
      have K := Lib.hid (ncClosure_any t x b wr (G0.out.cell HC.out))
      clear hx
      cases hv : (geT t) x
      · rw [hv] at K
        have H := Lib.hid (all_snoc (p := fun y => !(geT t) y) HX.out HA.out (by simp [hv]))
        clear hv
        go_wp2_with (go_at_call 27; refine K.out.mono ?_; rintro e w1 ⟨rfl, g1⟩; have G1 := Lib.hid (G0.out.trans g1); clear g1)
        go_roundw
        case rel => exact ⟨k + 1, by omega, by go_num, H.out, G1.out⟩
        case measure => simp [intOf]; omega
      · rw [hv] at K
        have H := Lib.hid (idxOf_hit HX.out HA.out hv)
        clear hv
        go_wp2_with (go_at_call 27; refine K.out.mono ?_; rintro e w1 ⟨rfl, g1⟩; have G1 := Lib.hid (G0.out.trans g1); clear g1)
        go_ret
        exact ⟨ret_int H.out.symm, G1.out⟩
    · have H := Lib.hid (idxOf_none (p := geT t) (all_take_all (by rw [Hn.out]; omega) HA.out))
      go_wp2
      go_ret
      exact ⟨ret_int H.out.symm, G0.out⟩

set_option maxHeartbeats 1000000 in
theorem iNextCue_any (A : Option Addr) (n c : Nat) (t r : Int) (p : Bool) (L : List SCue) (w : World) (hr : Rd w A 6 cCue L) (hn : L.length = n) (hb : n ≤ 4194304) (hcap : n ≤ c) (hwf : ∀ x ∈ L, WfCue x) :
    Calls Try.prog 12 #[pV A n c t r p] w fun e w' => e = .returned (.tuple #[.int .i64 (ncR L t r).1, .int .i64 (ncR L t r).2]) ∧ G w w' := by
  have KV := Lib.hid (fun (W : World) (g : G w W) => iValidPlayer_any A n c t r p L W (hr.G g) hn hb hcap hwf)
  have KX := Lib.hid (fun (b : Nat) (W : World) (g : G w W) => ncIx_any t b A n c L W (hr.G g) hn hb)
  have B0 := Lib.hid ((G.refl w).alloc (.cells #[.slice A n c, .int .i64 t, .int .i64 r, .bool p] 26))
  have d0 : (w.alloc (.cells #[.slice A n c, .int .i64 t, .int .i64 r, .bool p] 26)).cell? ⟨w.heap.size, 0, none⟩ = some (.slice A n c) := (World.cell?_alloc_at _ _ _ 0 rfl).trans rfl
  have d1 : (w.alloc (.cells #[.slice A n c, .int .i64 t, .int .i64 r, .bool p] 26)).cell? ⟨w.heap.size, 1, none⟩ = some (.int .i64 t) := (World.cell?_alloc_at _ _ _ 1 rfl).trans rfl
  have d2 : (w.alloc (.cells #[.slice A n c, .int .i64 t, .int .i64 r, .bool p] 26)).cell? ⟨w.heap.size, 2, none⟩ = some (.int .i64 r) := (World.cell?_alloc_at _ _ _ 2 rfl).trans rfl
  have d3 : (w.alloc (.cells #[.slice A n c, .int .i64 t, .int .i64 r, .bool p] 26)).cell? ⟨w.heap.size, 3, none⟩ = some (.bool p) := (World.cell?_alloc_at _ _ _ 3 rfl).trans rfl
  clear hr hn hwf hcap
  unfold pV
  cases hv : vplB L t r
  · have H := Lib.hid (show ncR L t r = (0, 1) by unfold ncR; rw [hv]; simp)
    have HV := Lib.hid hv
    clear hv
    go_enter Try.func12, Try.ntmps12
    go_wp2_with fail
    refine (KV.out _ B0.out).mono ?_
    rintro e w1 ⟨rfl, g1⟩
    have G1 := Lib.hid (B0.out.trans g1)
    replace d0 := g1.cell d0
    replace d1 := g1.cell d1
    replace d2 := g1.cell d2
    replace d3 := g1.cell d3
    clear g1 B0
    rw [HV.out]
    dsimp only
    go_wp2
    go_ret2
    exact ⟨ret_ii H.out, G1.out⟩
  have HV := Lib.hid hv
  rcases idxOf_cases (geT t) L with ⟨hi, _⟩ | ⟨q, z, hi, _, _, _⟩
  · have H := Lib.hid (show ncR L t r = (0, 3) by unfold ncR; rw [hv, hi]; simp)
    have HI := Lib.hid hi
    clear hv hi
    go_enter Try.func12, Try.ntmps12
    go_wp2_with fail
    refine (KV.out _ B0.out).mono ?_
    rintro e w1 ⟨rfl, g1⟩
    have G1 := Lib.hid (B0.out.trans g1)
    replace d0 := g1.cell d0
    replace d1 := g1.cell d1
    replace d2 := g1.cell d2
    replace d3 := g1.cell d3
    clear g1 B0
    rw [HV.out]
    dsimp only
    go_wp2_with fail
    refine (KX.out _ _ G1.out d1).mono ?_
    rintro e w2 ⟨rfl, g2⟩
    have G2 := Lib.hid (G1.out.trans g2)
    clear g2
    rw [HI.out]
    dsimp only
    go_wp2
    go_ret2
    exact ⟨ret_ii H.out, G2.out⟩
  · have H := Lib.hid (show ncR L t r = ((q : Int), 0) by unfold ncR; rw [hv, hi]; simp)
    have HI := Lib.hid hi
    have hq0 : ¬ (q : Int) < 0 := by omega
    clear hv hi
    go_enter Try.func12, Try.ntmps12
    go_wp2_with fail
    refine (KV.out _ B0.out).mono ?_
    rintro e w1 ⟨rfl, g1⟩
    have G1 := Lib.hid (B0.out.trans g1)
    replace d0 := g1.cell d0
    replace d1 := g1.cell d1
    replace d2 := g1.cell d2
    replace d3 := g1.cell d3
    clear g1 B0
    rw [HV.out]
    dsimp only
    go_wp2_with fail
    refine (KX.out _ _ G1.out d1).mono ?_
    rintro e w2 ⟨rfl, g2⟩
    have G2 := Lib.hid (G1.out.trans g2)
    clear g2
    rw [HI.out]
    dsimp only
    go_wp2
    go_ret2
    exact ⟨ret_ii H.out, G2.out⟩

end Go.Proofs.Ytecakcgkibemaaa
