/-
  Walks: FixtureAt, by both texts.
-/
import Derived.Test.YthghcpgeddepnaaValidFixtures
namespace Go.Proofs.Ythghcpgeddepnaa
open Go.RowKit

def hitF (u a : Int) (x : SFixture) : Bool := decide (x.Universe = u) && inB a x.Address (x.Address + x.Width - 1)
def fixtureAtR (L : List SFixture) (u a : Int) : Int × Int :=
  if vfs L = false then (0, 1) else if inB u 1 8 = false then (0, 2) else if inB a 1 512 = false then (0, 2) else
  match L.findIdx? (hitF u a) with
  | some k => (k, 0)
  | none => (0, 3)
theorem find_hit {p : SFixture → Bool} {L : List SFixture} {k : Nat} {x : SFixture} (hx : L[k]? = some x) (ha : (L.take k).all (fun y => !p y) = true) (hp : p x = true) : L.findIdx? p = some k := by
  rw [List.findIdx?_eq_some_iff_getElem]
  obtain ⟨hk, rfl⟩ := List.getElem?_eq_some_iff.1 hx
  refine ⟨hk, hp, fun j hj => ?_⟩
  have := List.all_eq_true.1 ha L[j] (List.mem_iff_getElem?.2 ⟨j, by rw [List.getElem?_take, if_pos hj]; exact List.getElem?_eq_getElem _⟩)
  simpa using this
theorem find_none {p : SFixture → Bool} {L : List SFixture} {k : Nat} (hk : L.length ≤ k) (ha : (L.take k).all (fun y => !p y) = true) : L.findIdx? p = none := by
  rw [List.take_of_length_le hk] at ha
  rw [List.findIdx?_eq_none_iff]
  intro x hx
  have := List.all_eq_true.1 ha x hx
  simpa using this

set_option maxRecDepth 20000 in
set_option maxHeartbeats 4000000 in
theorem iFixtureAt_any (A : Option Addr) (n c : Nat) (L : List SFixture) (u a : Int) (w : World) (hr : Rd w A 4 cFixture L) (hn : L.length = n) (hb : n ≤ 4194304) (hcap : n ≤ c) (hwf : ∀ x ∈ L, WfFixture x) :
    Calls Try.prog 39 #[.slice A n c, .int .i64 u, .int .i64 a] w fun e w' => e = .returned (.tuple #[.int .i64 (fixtureAtR L u a).1, .int .i64 (fixtureAtR L u a).2]) ∧ G w w' := by
  have K := Lib.hid (ValidFixtures_any A n c L w hr hn hb hcap hwf)
  have Hn := Lib.hid hn
  have HR := Lib.hid hr
  clear hr hn hwf
  cases hv : vfs L
  · have H := Lib.hid (show fixtureAtR L u a = (0, 1) by unfold fixtureAtR; rw [if_pos hv])
    rw [hv] at K
    go_enter Try.func39, Try.ntmps39
    go_wp2_with (go_at_call 36; refine K.out.mono ?_; rintro e w1 ⟨rfl, g1⟩)
    go_ret2
    exact ⟨ret_ii H.out, by assumption⟩
  have HV := Lib.hid hv
  rw [hv] at K
  clear hv
  cases hu : inB u 1 8
  · have H := Lib.hid (show fixtureAtR L u a = (0, 2) by unfold fixtureAtR; rw [if_neg (by rw [HV.out]; simp), if_pos hu])
    go_enter Try.func39, Try.ntmps39
    go_wp2_with (first | (go_at_call 36; refine K.out.mono ?_; rintro e w1 ⟨rfl, g1⟩) | (go_at_call 54; refine (within_any _ _ _ _).mono ?_; rintro e w' ⟨rfl, rfl⟩))
    go_ret2
    exact ⟨ret_ii H.out, by assumption⟩
  cases ha : inB a 1 512
  · have H := Lib.hid (show fixtureAtR L u a = (0, 2) by unfold fixtureAtR; rw [if_neg (by rw [HV.out]; simp), if_neg (by rw [hu]; simp), if_pos ha])
    go_enter Try.func39, Try.ntmps39
    go_wp2_with (first | (go_at_call 36; refine K.out.mono ?_; rintro e w1 ⟨rfl, g1⟩) | (go_at_call 54; refine (within_any _ _ _ _).mono ?_; rintro e w' ⟨rfl, rfl⟩))
    go_ret2
    exact ⟨ret_ii H.out, by assumption⟩
  have HF := Lib.hid (show fixtureAtR L u a = match L.findIdx? (hitF u a) with | some k => ((k : Int), (0 : Int)) | none => (0, 3) by unfold fixtureAtR; rw [if_neg (by rw [HV.out]; simp), if_neg (by rw [hu]; simp), if_neg (by rw [ha]; simp)])
  go_enter Try.func39, Try.ntmps39
  go_wp2_with (first | (go_at_call 36; refine K.out.mono ?_; rintro e w1 ⟨rfl, g1⟩; have G1 := Lib.hid g1; clear g1) | (go_at_call 54; refine (within_any _ _ _ _).mono ?_; rintro e w' ⟨rfl, rfl⟩))
  clear hu ha K
  go_loopw [23] (fun i wr => ∃ (k : Nat), k ≤ n ∧ i = .int .i64 k ∧ (L.take k).all (fun y => !hitF u a y) = true ∧ G w wr) (fun i _ => n - (intOf i).toNat)
  case atStart => exact ⟨0, Nat.zero_le _, rfl, by simp, G1.out⟩
  case round =>
    obtain ⟨k, hk, rfl, hl, hg⟩ := hrel
    have HL := Lib.hid hl
    have G0 := Lib.hid hg
    clear hl hg
    by_cases hlt : k < n
    · obtain ⟨b, o, x, rfl, hx, hc0, hc1, hc2, hc3⟩ := (HR.out.G G0.out).Fixture (k := k) (by rw [Hn.out]; exact hlt)
      have HX := Lib.hid hx
      obtain ⟨hu1, hu2, hw1, hw2, ha1, ha2⟩ := vfB_bd (vfs_at HV.out hx)
      clear hx
      have hlt2 : (k : Int) < (n : Int) := by omega
      have hk0 : 0 ≤ (k : Int) := by omega
      have hwr1 : IntKind.i64.wrap (x.Address + x.Width) = x.Address + x.Width := IntWalk.i64_in _ (by omega)
      have hwr2 : IntKind.i64.wrap (x.Address + x.Width - 1) = x.Address + x.Width - 1 := IntWalk.i64_in _ (by omega)
      by_cases hq : x.Universe = u
      · cases hin : inB a x.Address (x.Address + x.Width - 1)
        · have H1 := Lib.hid (all_snoc HX.out HL.out (p := fun y => !hitF u a y) (by simp [hitF, hin]))
          go_wp2_with (go_at_call 54; refine (within_any _ _ _ _).mono ?_; rintro e w' ⟨rfl, rfl⟩)
          go_roundw
          case rel => exact ⟨k + 1, by omega, by go_num, H1.out, G0.out.alloc _⟩
          case measure => simp [intOf]; omega
        · have H1 := Lib.hid (show fixtureAtR L u a = ((k : Int), 0) by rw [HF.out, find_hit HX.out HL.out (by simp [hitF, hin, hq])])
          go_wp2_with (go_at_call 54; refine (within_any _ _ _ _).mono ?_; rintro e w' ⟨rfl, rfl⟩)
          go_ret2
          exact ⟨ret_ii H1.out, G0.out.alloc _⟩
      · have H1 := Lib.hid (all_snoc HX.out HL.out (p := fun y => !hitF u a y) (by simp [hitF, hq]))
        go_wp2_with (go_at_call 54; refine (within_any _ _ _ _).mono ?_; rintro e w' ⟨rfl, rfl⟩)
        go_roundw
        case rel => exact ⟨k + 1, by omega, by go_num, H1.out, G0.out.alloc _⟩
        case measure => simp [intOf]; omega
    · have H1 := Lib.hid (show fixtureAtR L u a = (0, 3) by rw [HF.out, find_none (by rw [Hn.out]; omega) HL.out])
      go_wp2
      go_ret2
      exact ⟨ret_ii H1.out, G0.out⟩

set_option maxRecDepth 20000 in
set_option maxHeartbeats 4000000 in
theorem sFixtureAt_any (A : Option Addr) (n c : Nat) (L : List SFixture) (u a : Int) (w : World) (hr : Rd w A 4 cFixture L) (hn : L.length = n) (hb : n ≤ 4194304) (_hcap : n ≤ c) (hwf : ∀ x ∈ L, WfFixture x) :
    Calls Try.prog 38 #[.slice A n c, .int .i64 u, .int .i64 a] w fun e w' => e = .returned (.tuple #[.int .i64 (fixtureAtR L u a).1, .int .i64 (fixtureAtR L u a).2]) ∧ G w w' := by
  have K := Lib.hid (l20Ok_any A n c L w hr hn hb hwf)
  have Hn := Lib.hid hn
  have HR := Lib.hid hr
  clear hr hn hwf
  cases hv : vfs L
  · have H := Lib.hid (show fixtureAtR L u a = (0, 1) by unfold fixtureAtR; rw [if_pos hv])
    rw [hv] at K
    go_enter Try.func38, Try.ntmps38
    go_wp2_with (go_at_call 65; refine K.out.mono ?_; rintro e w1 ⟨rfl, g1⟩)
    go_ret2
    exact ⟨ret_ii H.out, by assumption⟩
  have HV := Lib.hid hv
  rw [hv] at K
  clear hv
  cases hu : inB u 1 8
  · have H := Lib.hid (show fixtureAtR L u a = (0, 2) by unfold fixtureAtR; rw [if_neg (by rw [HV.out]; simp), if_pos hu])
    go_enter Try.func38, Try.ntmps38
    go_wp2_with (first | (go_at_call 65; refine K.out.mono ?_; rintro e w1 ⟨rfl, g1⟩) | (go_at_call 67; refine (l20Universe_any _ _).mono ?_; rintro e w' ⟨rfl, rfl⟩) | (go_at_call 58; refine (l00In_any _ _ _ _).mono ?_; rintro e w' ⟨rfl, rfl⟩))
    go_ret2
    exact ⟨ret_ii H.out, by assumption⟩
  cases ha : inB a 1 512
  · have H := Lib.hid (show fixtureAtR L u a = (0, 2) by unfold fixtureAtR; rw [if_neg (by rw [HV.out]; simp), if_neg (by rw [hu]; simp), if_pos ha])
    go_enter Try.func38, Try.ntmps38
    go_wp2_with (first | (go_at_call 65; refine K.out.mono ?_; rintro e w1 ⟨rfl, g1⟩) | (go_at_call 67; refine (l20Universe_any _ _).mono ?_; rintro e w' ⟨rfl, rfl⟩) | (go_at_call 58; refine (l00In_any _ _ _ _).mono ?_; rintro e w' ⟨rfl, rfl⟩))
    go_ret2
    exact ⟨ret_ii H.out, by assumption⟩
  have HF := Lib.hid (show fixtureAtR L u a = match L.findIdx? (hitF u a) with | some k => ((k : Int), (0 : Int)) | none => (0, 3) by unfold fixtureAtR; rw [if_neg (by rw [HV.out]; simp), if_neg (by rw [hu]; simp), if_neg (by rw [ha]; simp)])
  go_enter Try.func38, Try.ntmps38
  go_wp2_with (first | (go_at_call 65; refine K.out.mono ?_; rintro e w1 ⟨rfl, g1⟩; have G1 := Lib.hid g1; clear g1) | (go_at_call 67; refine (l20Universe_any _ _).mono ?_; rintro e w' ⟨rfl, rfl⟩) | (go_at_call 58; refine (l00In_any _ _ _ _).mono ?_; rintro e w' ⟨rfl, rfl⟩))
  clear hu ha K
  go_loopw [8] (fun i wr => ∃ (k : Nat), k ≤ n ∧ i = .int .i64 k ∧ (L.take k).all (fun y => !hitF u a y) = true ∧ G w wr) (fun i _ => n - (intOf i).toNat)
  case atStart => exact ⟨0, Nat.zero_le _, rfl, by simp, G1.out⟩
  case round =>
    obtain ⟨k, hk, rfl, hl, hg⟩ := hrel
    have HL := Lib.hid hl
    have G0 := Lib.hid hg
    clear hl hg
    by_cases hlt : k < n
    · obtain ⟨b, o, x, rfl, hx, hc0, hc1, hc2, hc3⟩ := (HR.out.G G0.out).Fixture (k := k) (by rw [Hn.out]; exact hlt)
      have HX := Lib.hid hx
      obtain ⟨hu1, hu2, hw1, hw2, ha1, ha2⟩ := vfB_bd (vfs_at HV.out hx)
      clear hx
      have hlt2 : (k : Int) < (n : Int) := by omega
      have hk0 : 0 ≤ (k : Int) := by omega
      have hwr1 : IntKind.i64.wrap (x.Address + x.Width) = x.Address + x.Width := IntWalk.i64_in _ (by omega)
      have hwr2 : IntKind.i64.wrap (x.Address + x.Width - 1) = x.Address + x.Width - 1 := IntWalk.i64_in _ (by omega)
      by_cases hq : x.Universe = u
      · cases hin : inB a x.Address (x.Address + x.Width - 1)
        · have H1 := Lib.hid (all_snoc HX.out HL.out (p := fun y => !hitF u a y) (by simp [hitF, hin]))
          have hd : (x.Universe == u) = true := by simpa using hq
          have K2 := Lib.hid (fun W : World => l00In_any a x.Address (x.Address + x.Width - 1) W)
          rw [hin] at K2
          have gc1 := cellR hc1
          have gc2 := cellR hc2
          have gc3 := cellR hc3
          go_wp2
          refine region_quiet_G (by kernel_rfl) (by kernel_rfl) ?_; (repeat (go_big_quiet_step (((go_at_call 58; exact quiet_G_same (K2.out _)))))); refine wpQuiet_nil ?_
          intro w2 g2
          clear K2 gc1 gc2 gc3
          go_wp2
          go_roundw
          case rel => exact ⟨k + 1, by omega, by go_num, H1.out, G0.out.trans g2⟩
          case measure => simp [intOf]; omega
        · have H1 := Lib.hid (show fixtureAtR L u a = ((k : Int), 0) by rw [HF.out, find_hit HX.out HL.out (by simp [hitF, hin, hq])])
          have hd : (x.Universe == u) = true := by simpa using hq
          have K2 := Lib.hid (fun W : World => l00In_any a x.Address (x.Address + x.Width - 1) W)
          rw [hin] at K2
          have gc1 := cellR hc1
          have gc2 := cellR hc2
          have gc3 := cellR hc3
          go_wp2
          refine region_quiet_G (by kernel_rfl) (by kernel_rfl) ?_; (repeat (go_big_quiet_step (((go_at_call 58; exact quiet_G_same (K2.out _)))))); refine wpQuiet_nil ?_
          intro w2 g2
          clear K2 gc1 gc2 gc3
          go_wp2
          go_ret2
          exact ⟨ret_ii H1.out, G0.out.trans g2⟩
      · have H1 := Lib.hid (all_snoc HX.out HL.out (p := fun y => !hitF u a y) (by simp [hitF, hq]))
        have hd : (x.Universe == u) = false := by simpa using hq
        have K2 := Lib.hid (fun W : World => l00In_any a x.Address (x.Address + x.Width - 1) W)
        have gc1 := cellR hc1
        have gc2 := cellR hc2
        have gc3 := cellR hc3
        go_wp2
        refine region_quiet_G (by kernel_rfl) (by kernel_rfl) ?_; (repeat (go_big_quiet_step (((go_at_call 58; exact quiet_G_same (K2.out _)))))); refine wpQuiet_nil ?_
        intro w2 g2
        clear K2 gc1 gc2 gc3
        go_wp2
        go_roundw
        case rel => exact ⟨k + 1, by omega, by go_num, H1.out, G0.out.trans g2⟩
        case measure => simp [intOf]; omega
    · have H1 := Lib.hid (show fixtureAtR L u a = (0, 3) by rw [HF.out, find_none (by rw [Hn.out]; omega) HL.out])
      go_wp2
      go_ret2
      exact ⟨ret_ii H1.out, G0.out⟩
end Go.Proofs.Ythghcpgeddepnaa
