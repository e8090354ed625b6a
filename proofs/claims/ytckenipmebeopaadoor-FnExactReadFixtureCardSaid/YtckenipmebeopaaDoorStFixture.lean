/-
  Walks: the law's own functions on Fixture and on slices of Fixture: copied, compared, measured, marked, held.
-/
import Derived.Test.YtckenipmebeopaaDoorText
import Derived.Deep.WholeRow
import Derived.Lib.SmallJoins
namespace Go.Proofs.YtckenipmebeopaaDoor
open Go.RowKit

structure SFixture where
  Name : ByteArray
  Universe : Int
  Address : Int
  Width : Int

def cFixture (x : SFixture) : List Value := [.string x.Name, .int .i64 x.Universe, .int .i64 x.Address, .int .i64 x.Width]
theorem cFixture_len (x : SFixture) : (cFixture x).length = 4 := rfl
/-- What is known of an element that came in. -/
def WfFixture (x : SFixture) : Prop := x.Name.size ≤ maxLen
/-- How many letters an element has. -/
def szFixture (x : SFixture) : Int := (x.Name.size : Int)
theorem szFixture_nonneg (x : SFixture) : 0 ≤ szFixture x := by unfold szFixture; omega
/-- The head of a slice and an element's cells. -/
theorem Rd.Fixture {w : World} {A : Option Addr} {L : List SFixture} (h : Rd w A 4 cFixture L) {k : Nat} (hk : k < L.length) :
    ∃ b o x, A = some ⟨b, o, none⟩ ∧ L[k]? = some x ∧ w.cell? ⟨b, o + k * 4, none⟩ = some (.string x.Name) ∧ w.cell? ⟨b, o + k * 4 + 1, none⟩ = some (.int .i64 x.Universe) ∧ w.cell? ⟨b, o + k * 4 + 2, none⟩ = some (.int .i64 x.Address) ∧ w.cell? ⟨b, o + k * 4 + 3, none⟩ = some (.int .i64 x.Width) := by
  obtain ⟨b, o, x, e, hx, hc⟩ := h.at_ hk
  refine ⟨b, o, x, e, hx, ?_, ?_, ?_, ?_⟩
  · have := hc 0 _ rfl; simpa [← Nat.add_assoc] using this
  · have := hc 1 _ rfl; simpa [← Nat.add_assoc] using this
  · have := hc 2 _ rfl; simpa [← Nat.add_assoc] using this
  · have := hc 3 _ rfl; simpa [← Nat.add_assoc] using this

theorem infoFixture : (Tryd.prog.info? 26).map (fun i => (i.zero, i.size, i.bytes)) = some (some (.agg #[.string ⟨#[]⟩, .int .i64 0, .int .i64 0, .int .i64 0]), 4, 40) := by kernel_rfl

set_option maxHeartbeats 1000000 in
theorem toFixture_any (x : SFixture) (w : World) :
    Calls Tryd.prog 7 #[.agg #[.string x.Name, .int .i64 x.Universe, .int .i64 x.Address, .int .i64 x.Width]] w fun e w' => e = .returned (.agg #[.string x.Name, .int .i64 x.Universe, .int .i64 x.Address, .int .i64 x.Width]) ∧ G w w' := by
  go_enter Tryd.func7, Tryd.ntmps7
  go_wp2
  exact bodyPost_ret (v := .agg #[.string x.Name, .int .i64 x.Universe, .int .i64 x.Address, .int .i64 x.Width]) (by simp [results, Tryd.results7, go_sem]) rfl ⟨rfl, (((G.refl _).alloc _).alloc _).alloc _⟩

theorem oneFixture (x : SFixture) : (#[.string x.Name, .int .i64 x.Universe, .int .i64 x.Address, .int .i64 x.Width] : Array Value).all (·.oneCell') = true := all_oneCell_toArray (cs := cFixture x) (by intro v hv; simp only [cFixture, List.mem_cons, List.not_mem_nil, or_false] at hv; rcases hv with rfl | rfl | rfl | rfl <;> rfl)
theorem flatFixture_succ {L : List SFixture} {k : Nat} {x : SFixture} (h : L[k]? = some x) : (L.take (k + 1)).flatMap cFixture = (L.take k).flatMap cFixture ++ cFixture x := by
  rw [take_snoc h, List.flatMap_append]; simp

set_option maxHeartbeats 1000000 in
theorem eqFixture_same (x : SFixture) (w : World) :
    Calls Tryd.prog 11 #[.agg #[.string x.Name, .int .i64 x.Universe, .int .i64 x.Address, .int .i64 x.Width], .agg #[.string x.Name, .int .i64 x.Universe, .int .i64 x.Address, .int .i64 x.Width]] w fun e w' => e = .returned (.bool true) ∧ G w w' := by
  go_enter Tryd.func11, Tryd.ntmps11
  go_wp2
  go_ret
  exact ⟨rfl, ((G.refl _).alloc _).alloc _⟩

set_option maxHeartbeats 1000000 in
theorem szFixture_any (x : SFixture) (left : Int) (w : World) (hw : WfFixture x) (h0 : 0 ≤ left) (h1 : left ≤ 4194304) :
    Calls Tryd.prog 5 #[.agg #[.string x.Name, .int .i64 x.Universe, .int .i64 x.Address, .int .i64 x.Width], .int .i64 left] w fun e w' => e = .returned (.int .i64 (szR (left - szFixture x))) ∧ G w w' := by
  unfold WfFixture maxLen at hw
  by_cases q0 : left - (x.Name.size : Int) < 0
  · have H := Lib.hid (show szR (left - szFixture x) = -1 from szR_neg (by unfold szFixture; omega))
    go_enter Tryd.func5, Tryd.ntmps5
    go_wp2
    go_ret
    exact ⟨ret_int H.out.symm, (G.refl _).alloc _⟩
  have H := Lib.hid (show szR (left - szFixture x) = left - (x.Name.size : Int) by rw [szR_pos (by unfold szFixture; omega)]; unfold szFixture; omega)
  go_enter Tryd.func5, Tryd.ntmps5
  go_wp2
  go_ret
  exact ⟨ret_int H.out.symm, (G.refl _).alloc _⟩

/-- The marked element that begins at the number q. -/
def mkFixture (q : Int) : SFixture := ⟨mt (q), q + 1, q + 1 + 1, q + 1 + 1 + 1⟩
def mksFixture (q : Int) (n : Nat) : List SFixture := (List.range n).map fun i => mkFixture (q + 4 * (i : Nat))
theorem mksFixture_at (q : Int) (n i : Nat) (h : i < n) : (mksFixture q n)[i]? = some (mkFixture (q + 4 * i)) := by unfold mksFixture; simp [h]
theorem mksFixture_len (q : Int) (n : Nat) : (mksFixture q n).length = n := by unfold mksFixture; simp
theorem mksFixture_succ (q : Int) (n : Nat) : (mksFixture q (n + 1)).flatMap cFixture = (mksFixture q n).flatMap cFixture ++ cFixture (mkFixture (q + 4 * n)) := by unfold mksFixture; simp [List.range_succ, List.flatMap_append]

end Go.Proofs.YtckenipmebeopaaDoor
