/-
  Walks: slices.Clone at Cue.
-/
import Derived.Test.YtecakcgkibemaaaGreatDoorStCue
import Derived.Test.YtecakcgkibemaaaGreatDoorSlc
namespace Go.Proofs.YtecakcgkibemaaaGreatDoor
open Go.RowKit

theorem cCue_one (x : SCue) : ∀ u ∈ cCue x, u.oneCell' = true := by
  intro u hu
  simp only [cCue, List.mem_cons, List.not_mem_nil, or_false] at hu
  rcases hu with rfl | rfl | rfl | rfl | rfl | rfl <;> rfl

set_option maxHeartbeats 1000000 in
theorem cloneCue_any (A : Option Addr) (n c : Nat) (L : List SCue) (w : World) (hr : Rd w A 6 cCue L) (hn : L.length = n) (hb : n ≤ 4194304) :
    Calls Tryz.prog 29 #[.slice A n c] w (Lst w 49 6 cCue L) := by
  obtain ⟨i0, hi, hz0, hz1, hz2⟩ := info_parts infoCue
  have HI := Lib.hid (And.intro hi (And.intro hz0 (And.intro hz1 hz2)))
  clear hi hz0 hz1 hz2
  have Hn := Lib.hid hn
  cases A with
  | none =>
    have hL : L = [] := by
      cases L with
      | nil => rfl
      | cons y L => obtain ⟨b, o, e, _⟩ := hr (by simp); cases e
    have HL := Lib.hid hL
    have H0 := Lib.hid (show n = 0 by rw [← hn, hL]; rfl)
    have hq : ∀ w, (binOp .eql 23 (.slice none n c) (.slice none 0 0)).run Tryz.prog w = .ok (.bool true) w := fun w => Lib.run_eql_slice_nil w _ _ none n c 0 0 Tryz.underlying23
    clear hr hn hL
    go_enter Tryz.func29, Tryz.ntmps29
    go_wp2
    go_ret
    refine ⟨_, rfl, ?_, G.refl _⟩
    rw [HL.out]
    exact World.ownsRow_nil _ _ _ _
  | some a =>
    have HN := Lib.hid (rd_news cCue_len (hr.G ((G.refl w).alloc (.cells #[] 49))))
    have HLEN := Lib.hid (show (L.flatMap cCue).length = n * 6 by rw [flat_len cCue_len, hn])
    have hq : ∀ w, (binOp .eql 23 (.slice (some a) n c) (.slice none 0 0)).run Tryz.prog w = .ok (.bool false) w := fun w => Lib.run_eql_slice_nil w _ _ (some a) n c 0 0 Tryz.underlying23
    clear hr hn
    go_enter Tryz.func29, Tryz.ntmps29
    go_wp2_with (at_builtin; refine wpList_append_own _ rfl (.tmp 5) (.tmp 6) 23 rfl w.heap.size 49 i0 (.agg #[.string ⟨#[]⟩, .int .i64 0, .int .i64 0, .string ⟨#[]⟩, .int .i64 0, .int .i64 0]) 6 64 Tryz.underlying23 HI.out.1 HI.out.2.1 HI.out.2.2.1 HI.out.2.2.2 rfl (by decide) _ 0 [] rfl (World.ownsRow_lit (size := 6) w #[] 0 (Nat.le_refl _) (by unfold maxLen; omega) rfl) a n c (L.flatMap cCue) rfl HLEN.out HN.out (flat_one cCue_one L) ?c1 ?c2 ?c3 ?_)
    case c1 => unfold maxLen; omega
    case c2 => omega
    case c3 => simp
    intro v' w1 hown hgrow _
    try simp only [Nat.zero_add, List.nil_append] at hown
    have HO := Lib.hid hown
    have HG := Lib.hid (((G.refl w).alloc _).grown hgrow (by intro k hk; simp [Value.ownBlock] at hk; omega))
    clear hown hgrow
    go_wp2
    go_ret
    exact ⟨_, rfl, by rw [Hn.out]; exact HO.out, HG.out⟩
end Go.Proofs.YtecakcgkibemaaaGreatDoor
