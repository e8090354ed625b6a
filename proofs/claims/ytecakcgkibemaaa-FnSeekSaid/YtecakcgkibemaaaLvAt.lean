/-
  Walks: the level of a target at a time, by the reference, on valid cues.
-/
import Derived.Test.YtecakcgkibemaaaLev2
namespace Go.Proofs.Ytecakcgkibemaaa
open Go.RowKit

set_option maxRecDepth 20000 in
set_option maxHeartbeats 4000000 in
theorem sLevelAt_any (A : Option Addr) (n c : Nat) (L : List SCue) (tg : ByteArray) (time : Int) (w : World) (hr : Rd w A 6 cCue L) (hn : L.length = n) (hb : n ≤ 4194304) (hwf : ∀ x ∈ L, WfCue x) (hv : vcus L = true) (ht0 : 0 ≤ time) (ht1 : time ≤ 7200000) :
    Calls Try.prog 11 #[.slice A n c, .string tg, .int .i64 time] w fun e w' => e = .returned (.tuple #[.int .i64 (lvl L tg time n), .int .i64 0]) ∧ G w w' := by
  have K := Lib.hid (l13Ok_any A n c L w hr hn hb hwf)
  rw [hv] at K
  have KT := Lib.hid (fun (W : World) => l13Time_any time W)
  rw [inB_mk ⟨ht0, ht1⟩] at KT
  have KL := Lib.hid (fun (W : World) (g : G w W) => l13Level_any A n c L tg time W (hr.G g) hn hv ht0 ht1)
  clear hr hn hwf hv
  go_enter Try.func11, Try.ntmps11
  go_wp2_with (first | (go_at_call 23; (with_reducible refine K.out.mono ?_); rintro e w1 ⟨rfl, g1⟩; have G1 := Lib.hid g1; clear g1) | (go_at_call 24; (with_reducible refine (KT.out _).mono ?_); rintro e w2 ⟨rfl, rfl⟩) | (go_at_call 25; (with_reducible refine (KL.out _ G1.out).mono ?_); rintro e w3 ⟨rfl, g3⟩; have G3 := Lib.hid (G1.out.trans g3); clear g3))
  go_ret2
  exact ⟨rfl, G3.out⟩
end Go.Proofs.Ytecakcgkibemaaa
