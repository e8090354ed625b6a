/-
  Walks: SamePlayer, by both texts.
-/
import Derived.Test.YtecakcgkibemaaaGreatDoorSameCues
import Derived.Test.YtecakcgkibemaaaGreatDoorStPlayer
namespace Go.Proofs.YtecakcgkibemaaaGreatDoor
open Go.RowKit

def samePl (L M : List SCue) (t s r u : Int) (p q : Bool) : Bool := sameLs L M && (t == s) && (r == u) && (p == q)

set_option maxHeartbeats 4000000 in
theorem sSamePlayer_any (A B : Option Addr) (n c m d : Nat) (t r s u : Int) (p q : Bool) (L M : List SCue) (w : World) (hr : Rd w A 6 cCue L) (hn : L.length = n) (hb : n ≤ 4194304) (hr2 : Rd w B 6 cCue M) (hn2 : M.length = m) (hb2 : m ≤ 4194304) :
    Calls Tryz.prog 7 #[pV A n c t r p, pV B m d s u q] w fun e w' => e = .returned (.bool (samePl L M t s r u p q)) ∧ G w w' := by
  have B0 := Lib.hid (((G.refl w).alloc (.cells #[.slice A n c, .int .i64 t, .int .i64 r, .bool p] 25)).alloc (.cells #[.slice B m d, .int .i64 s, .int .i64 u, .bool q] 25))
  have K := Lib.hid (l13Same_any A B n c m d L M ((w.alloc (.cells #[.slice A n c, .int .i64 t, .int .i64 r, .bool p] 25)).alloc (.cells #[.slice B m d, .int .i64 s, .int .i64 u, .bool q] 25)) (hr.G B0.out) hn hb (hr2.G B0.out) hn2 hb2)
  have d1 : ((w.alloc (.cells #[.slice A n c, .int .i64 t, .int .i64 r, .bool p] 25)).alloc (.cells #[.slice B m d, .int .i64 s, .int .i64 u, .bool q] 25)).cell? ⟨w.heap.size, 1, none⟩ = some (.int .i64 t) := ((G.refl (w.alloc (.cells #[.slice A n c, .int .i64 t, .int .i64 r, .bool p] 25))).alloc (.cells #[.slice B m d, .int .i64 s, .int .i64 u, .bool q] 25)).cell ((World.cell?_alloc_at _ _ _ 1 rfl).trans rfl)
  have d2 : ((w.alloc (.cells #[.slice A n c, .int .i64 t, .int .i64 r, .bool p] 25)).alloc (.cells #[.slice B m d, .int .i64 s, .int .i64 u, .bool q] 25)).cell? ⟨w.heap.size, 2, none⟩ = some (.int .i64 r) := ((G.refl (w.alloc (.cells #[.slice A n c, .int .i64 t, .int .i64 r, .bool p] 25))).alloc (.cells #[.slice B m d, .int .i64 s, .int .i64 u, .bool q] 25)).cell ((World.cell?_alloc_at _ _ _ 2 rfl).trans rfl)
  have d3 : ((w.alloc (.cells #[.slice A n c, .int .i64 t, .int .i64 r, .bool p] 25)).alloc (.cells #[.slice B m d, .int .i64 s, .int .i64 u, .bool q] 25)).cell? ⟨w.heap.size, 3, none⟩ = some (.bool p) := ((G.refl (w.alloc (.cells #[.slice A n c, .int .i64 t, .int .i64 r, .bool p] 25))).alloc (.cells #[.slice B m d, .int .i64 s, .int .i64 u, .bool q] 25)).cell ((World.cell?_alloc_at _ _ _ 3 rfl).trans rfl)
  have e1 : ((w.alloc (.cells #[.slice A n c, .int .i64 t, .int .i64 r, .bool p] 25)).alloc (.cells #[.slice B m d, .int .i64 s, .int .i64 u, .bool q] 25)).cell? ⟨w.heap.size + 1, 1, none⟩ = some (.int .i64 s) := (World.cell?_alloc_at _ _ _ 1 (by simp)).trans rfl
  have e2 : ((w.alloc (.cells #[.slice A n c, .int .i64 t, .int .i64 r, .bool p] 25)).alloc (.cells #[.slice B m d, .int .i64 s, .int .i64 u, .bool q] 25)).cell? ⟨w.heap.size + 1, 2, none⟩ = some (.int .i64 u) := (World.cell?_alloc_at _ _ _ 2 (by simp)).trans rfl
  have e3 : ((w.alloc (.cells #[.slice A n c, .int .i64 t, .int .i64 r, .bool p] 25)).alloc (.cells #[.slice B m d, .int .i64 s, .int .i64 u, .bool q] 25)).cell? ⟨w.heap.size + 1, 3, none⟩ = some (.bool q) := (World.cell?_alloc_at _ _ _ 3 (by simp)).trans rfl
  clear hr hn hr2 hn2
  unfold pV
  cases h1 : sameLs L M
  · have H := Lib.hid (show samePl L M t s r u p q = false by unfold samePl; rw [h1]; simp)
    rw [h1] at K
    clear h1
    go_enter Tryz.func7, Tryz.ntmps7
    go_wp2_with fail
    refine K.out.mono ?_
    rintro e w1 ⟨rfl, g1⟩
    have G1 := Lib.hid (B0.out.trans g1)
    replace d1 := g1.cell d1
    replace d2 := g1.cell d2
    replace d3 := g1.cell d3
    replace e1 := g1.cell e1
    replace e2 := g1.cell e2
    replace e3 := g1.cell e3
    clear g1 K B0
    dsimp only
    go_wp2
    go_ret
    exact ⟨ret_bool H.out.symm, G1.out⟩
  rw [h1] at K
  cases h2 : (t == s)
  · have H := Lib.hid (show samePl L M t s r u p q = false by unfold samePl; rw [h1, h2]; simp)
    clear h1
    go_enter Tryz.func7, Tryz.ntmps7
    go_wp2_with fail
    refine K.out.mono ?_
    rintro e w1 ⟨rfl, g1⟩
    have G1 := Lib.hid (B0.out.trans g1)
    replace d1 := g1.cell d1
    replace d2 := g1.cell d2
    replace d3 := g1.cell d3
    replace e1 := g1.cell e1
    replace e2 := g1.cell e2
    replace e3 := g1.cell e3
    clear g1 K B0
    dsimp only
    go_wp2
    go_ret
    exact ⟨ret_bool H.out.symm, G1.out⟩
  cases h3 : (r == u)
  · have H := Lib.hid (show samePl L M t s r u p q = false by unfold samePl; rw [h1, h2, h3]; simp)
    clear h1
    go_enter Tryz.func7, Tryz.ntmps7
    go_wp2_with fail
    refine K.out.mono ?_
    rintro e w1 ⟨rfl, g1⟩
    have G1 := Lib.hid (B0.out.trans g1)
    replace d1 := g1.cell d1
    replace d2 := g1.cell d2
    replace d3 := g1.cell d3
    replace e1 := g1.cell e1
    replace e2 := g1.cell e2
    replace e3 := g1.cell e3
    clear g1 K B0
    dsimp only
    go_wp2
    go_ret
    exact ⟨ret_bool H.out.symm, G1.out⟩
  have H := Lib.hid (show samePl L M t s r u p q = (p == q) by unfold samePl; rw [h1, h2, h3]; simp)
  clear h1
  go_enter Tryz.func7, Tryz.ntmps7
  go_wp2_with fail
  refine K.out.mono ?_
  rintro e w1 ⟨rfl, g1⟩
  have G1 := Lib.hid (B0.out.trans g1)
  replace d1 := g1.cell d1
  replace d2 := g1.cell d2
  replace d3 := g1.cell d3
  replace e1 := g1.cell e1
  replace e2 := g1.cell e2
  replace e3 := g1.cell e3
  clear g1 K B0
  dsimp only
  go_wp2
  go_ret
  exact ⟨ret_bool H.out.symm, G1.out⟩
end Go.Proofs.YtecakcgkibemaaaGreatDoor
