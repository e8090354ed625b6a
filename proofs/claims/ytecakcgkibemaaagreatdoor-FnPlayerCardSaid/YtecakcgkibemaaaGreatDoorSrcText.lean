/-
  Walks: a text drawn out of a list of texts.
-/
import Derived.Test.YtecakcgkibemaaaGreatDoorSrc
import Derived.Test.YtecakcgkibemaaaGreatDoorStrs
namespace Go.Proofs.YtecakcgkibemaaaGreatDoor
open Go.RowKit

/-- A literal list of texts. -/
theorem rd_lits (w : World) (M : List ByteArray) (T : Nat) : Rd (w.alloc (.cells (M.map Value.string).toArray T)) (some ⟨w.heap.size, 0, none⟩) 1 sv M := fun _ => by
  refine ⟨w.heap.size, 0, rfl, fun i x j u hi hj => ?_⟩
  match j, hj with
  | 0, hj =>
    simp only [sv, List.getElem?_cons_zero, Option.some.injEq] at hj
    subst hj
    rw [World.cell?_alloc_at _ _ _ _ rfl]
    simp [hi]
  | j + 1, hj => simp [sv] at hj
set_option maxHeartbeats 1000000 in
theorem text_any {w : World} {s : Nat} {A : Option Addr} {n c : Nat} {L : List Int} {m : Nat} (B : Option Addr) (nb cb : Nat) (M : List ByteArray) (h : Src w s A n c L m) (hm : m + 2 ≤ 1000000) (hr : Rd w B 1 sv M) (hn : M.length = nb) (h0 : 0 < nb) (hb : nb ≤ 1000000) (hne : ∀ a, B = some a → a.block ≠ s) :
    Calls Tryz.prog 59 #[.pointer (some ⟨s, 0, none⟩), .slice B nb cb] w (Drawn w s A n c L (m + 2) fun v => ∃ x, x ∈ M ∧ v = .string x) := by
  have K := Lib.hid (pick_any nb w s A n c L m h hm (by omega))
  have HR := Lib.hid hr
  have Hn := Lib.hid hn
  have HNE := Lib.hid hne
  clear h hr hn hne
  go_enter Tryz.func59, Tryz.ntmps59
  go_wp2_with fail
  refine K.out.mono ?_
  rintro e w1 ⟨v, ⟨x, hx0, hx1, rfl⟩, rfl, g1, h1⟩
  have G1 := Lib.hid g1
  have H1 := Lib.hid h1
  obtain ⟨k, rfl⟩ : ∃ k : Nat, x = k := ⟨x.toNat, by omega⟩
  have hk : k < nb := by omega
  have hrd := HR.out.Gx (g := some s) G1.out (fun a ha e => HNE.out a ha (by simpa using e))
  obtain ⟨b, o, y, rfl, hy, hc⟩ := hrd.str (k := k) (by rw [Hn.out]; exact hk)
  have HY := Lib.hid (List.mem_of_getElem? hy)
  clear g1 h1 hx1 hrd hy
  dsimp only
  go_wp2
  go_ret
  exact ⟨_, ⟨y, HY.out, rfl⟩, rfl, G1.out, H1.out⟩
end Go.Proofs.YtecakcgkibemaaaGreatDoor
