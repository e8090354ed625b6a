/-
  Walks: FixtureAt, by both texts.
-/
import Derived.Test.YtckenipmebeopaaValidFixtures
namespace Go.Proofs.Ytckenipmebeopaa
open Go.RowKit

def hitF (u a : Int) (x : SFixture) : Bool := decide (x.Universe = u) && inB a x.Address (x.Address + x.Width - 1)
def fixtureAtR (L : List SFixture) (u a : Int) : Int × Int :=
  if vfs L = false then (0, 1) else if inB u 1 8 = false then (0, 2) else if inB a 1 512 = false then (0, 2) else
  match L.findIdx? (hitF u a) with
  | some k => (k, 0)
  | none => (0, 3)
theorem find_hit {p : SFixture → Bool} {L : List SFixture} {k : Nat} {x : SFixture} (hx : L[k]? = some x) (ha : (L.take k).all (fun y => !p y) = true) (hp : p x = true) : L.findIdx? p = some k := by
  rw [List.findIdx?_eq_some_iff_getElem]
  obtain ⟨hk, rfl⟩ := List.getElem?_eq_some_iff.1 hx
  refine ⟨hk, hp, fun j hj => ?_⟩
  have := List.all_eq_true.1 ha L[j] (List.mem_iff_getElem?.2 ⟨j, by rw [List.getElem?_take, if_pos hj]; exact List.getElem?_eq_getElem _⟩)
  simpa using this
theorem find_none {p : SFixture → Bool} {L : List SFixture} {k : Nat} (hk : L.length ≤ k) (ha : (L.take k).all (fun y => !p y) = true) : L.findIdx? p = none := by
  rw [List.take_of_length_le hk] at ha
  rw [List.findIdx?_eq_none_iff]
  intro x hx
  have := List.all_eq_true.1 ha x hx
  simpa using this

set_option maxRecDepth 20000 in
set_option maxHeartbeats 4000000 in
theorem iFixtureAt_any (A : Option Addr) (n c : Nat) (L : List SFixture) (u a : Int) (w : World) (hr : Rd w A 4 cFixture L) (hn : L.length = n) (hb : n ≤ 4194304) (hcap : n ≤ c) (hwf : ∀ x ∈ L, WfFixture x) :
    Calls Try.prog 8 #[.slice A n c, .int .i64 u, .int .i64 a] w fun e w' => e = .returned (.tuple #[.int .i64 (fixtureAtR L u a).1, .int .i64 (fixtureAtR L u a).2]) ∧ G w w' := by
  have K := Lib.hid (ValidFixtures_any A n c L w hr hn hb hcap hwf)
  have Hn := Lib.hid hn
  have HR := Lib.hid hr
  clear hr hn hwf
  cases hv : vfs L
  · have H := Lib.hid (show fixtureAtR L u a = (0, 1) by unfold fixtureAtR; rw [if_pos hv])
    rw [hv] at K
    go_enter Try.func8, Try.ntmps8
    go_wp2_with (go_at_call 25; refine K.out.mono ?_; rintro e w1 ⟨rfl, g1⟩)
    go_ret2
    exact ⟨ret_ii H.out, by assumption⟩
  have HV := Lib.hid hv
  rw [hv] at K
  clear hv
  cases hu : inB u 1 8
  · have H := Lib.hid (show fixtureAtR L u a = (0, 2) by unfold fixtureAtR; rw [if_neg (by rw [HV.out]; simp), if_pos hu])
    go_enter Try.func8, Try.ntmps8
    go_wp2_with (first | (go_at_call 25; refine K.out.mono ?_; rintro e w1 ⟨rfl, g1⟩) | (go_at_call 26; refine (within_any _ _ _ _).mono ?_; rintro e w' ⟨rfl, rfl⟩))
    go_ret2
    exact ⟨ret_ii H.out, by assumption⟩
  cases ha : inB a 1 512
  · have H := Lib.hid (show fixtureAtR L u a = (0, 2) by unfold fixtureAtR; rw [if_neg (by rw [HV.out]; simp), if_neg (by rw [hu]; simp), if_pos ha])
    go_enter Try.func8, Try.ntmps8
    go_wp2_with (first | (go_at_call 25; refine K.out.mono ?_; rintro e w1 ⟨rfl, g1⟩) | (go_at_call 26; refine (within_any _ _ _ _).mono ?_; rintro e w' ⟨rfl, rfl⟩))
    go_ret2
    exact ⟨ret_ii H.out, by assumption⟩
  have HF := Lib.hid (show fixtureAtR L u a = match L.findIdx? (hitF u a) with | some k => ((k : Int), (0 : Int)) | none => (0, 3) by unfold fixtureAtR; rw [if_neg (by rw [HV.out]; simp), if_neg (by rw [hu]; simp), if_neg (by rw [ha]; simp)])
  go_enter Try.func8, Try.ntmps8
  go_wp2_with (first | (go_at_call 25; refine K.out.mono ?_; rintro e w1 ⟨rfl, g1⟩; have G1 := Lib.hid g1; clear g1) | (go_at_call 26; refine (within_any _ _ _ _).mono ?_; rintro e w' ⟨rfl, rfl⟩))
  clear hu ha K
  go_loopw [23] (fun i wr => ∃ (k : Nat), k ≤ n ∧ i = .int .i64 k ∧ (L.take k).all (fun y => !hitF u a y) = true ∧ G w wr) (fun i _ => n - (intOf i).toNat)
  case atStart => exact ⟨0, Nat.zero_le _, rfl, by simp, G1.out⟩
  case round =>
    obtain ⟨k, hk, rfl, hl, hg⟩ := hrel
    have HL := Lib.hid hl
    have G0 := Lib.hid hg
    clear hl hg
    by_cases hlt : k < n
    · obtain ⟨b, o, x, rfl, hx, hc0, hc1, hc2, hc3⟩ := (HR.out.G G0.out).Fixture (k := k) (by rw [Hn.out]; exact hlt)
      have HX := Lib.hid hx
      obtain ⟨hu1, hu2, hw1, hw2, ha1, ha2⟩ := vfB_bd (vfs_at HV.out hx)
      clear hx
      have hlt2 : (k : Int) < (n : Int) := by omega
      have hk0 : 0 ≤ (k : Int) := by omega
      have hwr1 : IntKind.i64.wrap (x.Address + x.Width) = x.Address + x.Width := IntWalk.i64_in _ (by omega)
      have hwr2 : IntKind.i64.wrap (x.Address + x.Width - 1) = x.Address + x.Width - 1 := IntWalk.i64_in _ (by omega)
      by_cases hq : x.Universe = u
      · cases hin : inB a x.Address (x.Address + x.Width - 1)
        · have H1 := Lib.hid (all_snoc HX.out HL.out (p := fun y => !hitF u a y) (by simp [hitF, hin]))
          go_wp2_with (go_at_call 26; refine (within_any _ _ _ _).mono ?_; rintro e w' ⟨rfl, rfl⟩)
          go_roundw
          case rel => exact ⟨k + 1, by omega, by go_num, H1.out, G0.out.alloc _⟩
          case measure => simp [intOf]; omega
        · have H1 := Lib.hid (show fixtureAtR L u a = ((k : Int), 0) by rw [HF.out, find_hit HX.out HL.out (by simp [hitF, hin, hq])])
          go_wp2_with (go_at_call 26; refine (within_any _ _ _ _).mono ?_; rintro e w' ⟨rfl, rfl⟩)
          go_ret2
          exact ⟨ret_ii H1.out, G0.out.alloc _⟩
      · have H1 := Lib.hid (all_snoc HX.out HL.out (p := fun y => !hitF u a y) (by simp [hitF, hq]))
        go_wp2_with (go_at_call 26; refine (within_any _ _ _ _).mono ?_; rintro e w' ⟨rfl, rfl⟩)
        go_roundw
        case rel => exact ⟨k + 1, by omega, by go_num, H1.out, G0.out.alloc _⟩
        case measure => simp [intOf]; omega
    · have H1 := Lib.hid (show fixtureAtR L u a = (0, 3) by rw [HF.out, find_none (by rw [Hn.out]; omega) HL.out])
      go_wp2
      go_ret2
      exact ⟨ret_ii H1.out, G0.out⟩

end Go.Proofs.Ytckenipmebeopaa
