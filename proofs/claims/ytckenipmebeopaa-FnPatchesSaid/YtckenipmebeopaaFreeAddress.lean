/-
  Walks: FreeAddress, by both texts; a patch searched by a closure.
-/
import Derived.Test.YtckenipmebeopaaValidFixtures
import Derived.Test.YtckenipmebeopaaRes
namespace Go.Proofs.Ytckenipmebeopaa
open Go.RowKit

section
variable {α : Type} {p : α → Bool} {L : List α} {k : Nat} {x : α}
/-- The place of the first element as asked, or -1. -/
def idxOf (p : α → Bool) (L : List α) : Int := match L.findIdx? p with
  | some k => k
  | none => -1
theorem idxOf_hit (hx : L[k]? = some x) (ha : (L.take k).all (fun y => !p y) = true) (hp : p x = true) : idxOf p L = k := by
  have : L.findIdx? p = some k := by
    rw [List.findIdx?_eq_some_iff_getElem]
    obtain ⟨hk, rfl⟩ := List.getElem?_eq_some_iff.1 hx
    refine ⟨hk, hp, fun j hj => ?_⟩
    have := List.all_eq_true.1 ha L[j] (List.mem_iff_getElem?.2 ⟨j, by rw [List.getElem?_take, if_pos hj]; exact List.getElem?_eq_getElem _⟩)
    simpa using this
  unfold idxOf; rw [this]
theorem idxOf_none (ha : L.all (fun y => !p y) = true) : idxOf p L = -1 := by
  have : L.findIdx? p = none := by
    rw [List.findIdx?_eq_none_iff]
    intro x hx
    have := List.all_eq_true.1 ha x hx
    simpa using this
  unfold idxOf; rw [this]
theorem idxOf_cases (p : α → Bool) (L : List α) : (idxOf p L = -1 ∧ L.any p = false) ∨ ∃ (k : Nat) (x : α), idxOf p L = k ∧ L[k]? = some x ∧ p x = true ∧ L.any p = true := by
  unfold idxOf
  cases h : L.findIdx? p with
  | none =>
    rw [List.findIdx?_eq_none_iff] at h
    left
    refine ⟨rfl, ?_⟩
    rw [List.any_eq_false]
    intro x hx
    simp [h x hx]
  | some k =>
    rw [List.findIdx?_eq_some_iff_getElem] at h
    obtain ⟨hk, hp, _⟩ := h
    right
    exact ⟨k, L[k], rfl, List.getElem?_eq_getElem hk, hp, List.any_eq_true.2 ⟨_, List.getElem_mem hk, hp⟩⟩
end

/-- x shares an address with f. -/
def hitSh (f x : SFixture) : Bool := decide (0 < shF f x)
theorem shF_nonneg (a b : SFixture) : 0 ≤ shF a b := by unfold shF; split <;> omega
theorem hitSh_comm0 {f x : SFixture} : hitSh f x = false ↔ shF x f = 0 := by
  unfold hitSh
  rw [shF_comm]
  have := shF_nonneg x f
  simp; omega

set_option maxHeartbeats 1000000 in
theorem freeClosure_any (f x : SFixture) (hf : Mid f) (hx : Mid x) (b : Nat) (w : World) (hc0 : w.cell? ⟨b, 0, none⟩ = some (.string f.Name)) (hc1 : w.cell? ⟨b, 1, none⟩ = some (.int .i64 f.Universe)) (hc2 : w.cell? ⟨b, 2, none⟩ = some (.int .i64 f.Address)) (hc3 : w.cell? ⟨b, 3, none⟩ = some (.int .i64 f.Width)) :
    Calls Try.prog 42 #[.agg #[.string x.Name, .int .i64 x.Universe, .int .i64 x.Address, .int .i64 x.Width], .pointer (some ⟨b, 0, none⟩)] w fun e w' => e = .returned (.bool (hitSh f x)) ∧ G w w' := by
  have d0 := ((G.refl w).alloc (.cells #[.string x.Name, .int .i64 x.Universe, .int .i64 x.Address, .int .i64 x.Width] 34)).cell hc0
  have d1 := ((G.refl w).alloc (.cells #[.string x.Name, .int .i64 x.Universe, .int .i64 x.Address, .int .i64 x.Width] 34)).cell hc1
  have d2 := ((G.refl w).alloc (.cells #[.string x.Name, .int .i64 x.Universe, .int .i64 x.Address, .int .i64 x.Width] 34)).cell hc2
  have d3 := ((G.refl w).alloc (.cells #[.string x.Name, .int .i64 x.Universe, .int .i64 x.Address, .int .i64 x.Width] 34)).cell hc3
  clear hc0 hc1 hc2 hc3
  go_enter Try.func42, Try.ntmps42
  go_wp2_with (go_at_call 35; refine (sharedAddresses_any f x hf hx _).mono ?_; rintro e w1 ⟨rfl, g1⟩; have G1 := Lib.hid g1; clear g1)
  go_ret
  exact ⟨rfl, ((G.refl _).alloc _).trans G1.out⟩

set_option maxRecDepth 20000 in
set_option maxHeartbeats 2000000 in
theorem freeIx_any (f : SFixture) (hf : Mid f) (b : Nat) (A : Option Addr) (n c : Nat) (L : List SFixture) (w : World) (hr : Rd w A 4 cFixture L) (hn : L.length = n) (hb : n ≤ 4194304) (hm : ∀ x ∈ L, Mid x) (hc0 : w.cell? ⟨b, 0, none⟩ = some (.string f.Name)) (hc1 : w.cell? ⟨b, 1, none⟩ = some (.int .i64 f.Universe)) (hc2 : w.cell? ⟨b, 2, none⟩ = some (.int .i64 f.Address)) (hc3 : w.cell? ⟨b, 3, none⟩ = some (.int .i64 f.Width)) :
    Calls Try.prog 38 #[.slice A n c, .func (.func 42) #[] #[.pointer (some ⟨b, 0, none⟩)]] w fun e w' => e = .returned (.int .i64 (idxOf (hitSh f) L)) ∧ G w w' := by
  have Hn := Lib.hid hn
  have HR := Lib.hid hr
  clear hr hn
  have C0 := Lib.hid hc0
  have C1 := Lib.hid hc1
  have C2 := Lib.hid hc2
  have C3 := Lib.hid hc3
  have HM := Lib.hid hm
  clear hc0 hc1 hc2 hc3 hm
  go_enter Try.func38, Try.ntmps38
  go_wp2
  go_loopw [8] (fun i wr => ∃ k : Nat, k ≤ n ∧ i = .int .i64 k ∧ (L.take k).all (fun y => !(hitSh f) y) = true ∧ G w wr) (fun i _ => n - (intOf i).toNat)
  case atStart => exact ⟨0, Nat.zero_le _, rfl, by simp, G.refl _⟩
  case round =>
    obtain ⟨k, hk, rfl, ha, hg⟩ := hrel
    have HA := Lib.hid ha
    have G0 := Lib.hid hg
    clear ha hg
    by_cases hlt : k < n
    · obtain ⟨b1, o, x, rfl, hx, hc0, hc1, hc2, hc3⟩ := (HR.out.G G0.out).Fixture (k := k) (by rw [Hn.out]; exact hlt)
      have HX := Lib.hid hx
      have K := Lib.hid (freeClosure_any f x hf (HM.out x (List.mem_of_getElem? hx)) b wr (G0.out.cell C0.out) (G0.out.cell C1.out) (G0.out.cell C2.out) (G0.out.cell C3.out))
      clear hx
      cases hv : (hitSh f) x
      · rw [hv] at K
        have H := Lib.hid (all_snoc (p := fun y => !(hitSh f) y) HX.out HA.out (by simp [hv]))
        clear hv
        go_wp2_with (go_at_call 42; refine K.out.mono ?_; rintro e w1 ⟨rfl, g1⟩; have G1 := Lib.hid (G0.out.trans g1); clear g1)
        go_roundw
        case rel => exact ⟨k + 1, by omega, by go_num, H.out, G1.out⟩
        case measure => simp [intOf]; omega
      · rw [hv] at K
        have H := Lib.hid (idxOf_hit HX.out HA.out hv)
        clear hv
        go_wp2_with (go_at_call 42; refine K.out.mono ?_; rintro e w1 ⟨rfl, g1⟩; have G1 := Lib.hid (G0.out.trans g1); clear g1)
        go_ret
        exact ⟨ret_int H.out.symm, G1.out⟩
    · have H := Lib.hid (idxOf_none (p := (hitSh f)) (all_take_all (by rw [Hn.out]; omega) HA.out))
      go_wp2
      go_ret
      exact ⟨ret_int H.out.symm, G0.out⟩

def addrF (u a wd : Int) : SFixture := ⟨⟨#[]⟩, u, a, wd⟩
def freeGo (L : List SFixture) (u wd : Int) : Nat → Int → Int × Int
  | 0, _ => (0, 5)
  | f + 1, a => if a + wd ≤ 513 then (if L.any (hitSh (addrF u a wd)) = true then freeGo L u wd f (a + 1) else (a, 0)) else (0, 5)
def freeR (L : List SFixture) (u wd : Int) : Int × Int := if vfs L = false then (0, 1) else if inB u 1 8 = false then (0, 2) else if inB wd 1 64 = false then (0, 2) else freeGo L u wd 513 1
theorem freeGo_end {L : List SFixture} {u wd : Int} {f : Nat} {a : Int} (h : ¬ a + wd ≤ 513) : freeGo L u wd f a = (0, 5) := by
  cases f with
  | zero => rfl
  | succ f => unfold freeGo; rw [if_neg h]
theorem freeGo_hit {L : List SFixture} {u wd : Int} {f : Nat} {a : Int} (h : a + wd ≤ 513) (hl : L.any (hitSh (addrF u a wd)) = true) : freeGo L u wd (f + 1) a = freeGo L u wd f (a + 1) := by
  conv => lhs; unfold freeGo
  rw [if_pos h, if_pos hl]
theorem freeGo_free {L : List SFixture} {u wd : Int} {f : Nat} {a : Int} (h : a + wd ≤ 513) (hl : L.any (hitSh (addrF u a wd)) = false) : freeGo L u wd (f + 1) a = (a, 0) := by
  unfold freeGo
  rw [if_pos h, if_neg (by rw [hl]; simp)]
theorem any_of_all {p : SFixture → Bool} {L : List SFixture} {b : Bool} (h : L.all (fun y => !p y) = b) : L.any p = !b := by
  subst h
  induction L with
  | nil => rfl
  | cons y L ih => simp only [List.any_cons, List.all_cons, ih]; cases p y <;> simp

set_option maxRecDepth 20000 in
set_option maxHeartbeats 4000000 in
theorem iFreeAddress_any (A : Option Addr) (n c : Nat) (L : List SFixture) (u wd : Int) (w : World) (hr : Rd w A 4 cFixture L) (hn : L.length = n) (hb : n ≤ 4194304) (hcap : n ≤ c) (hwf : ∀ x ∈ L, WfFixture x) :
    Calls Try.prog 18 #[.slice A n c, .int .i64 u, .int .i64 wd] w fun e w' => e = .returned (.tuple #[.int .i64 (freeR L u wd).1, .int .i64 (freeR L u wd).2]) ∧ G w w' := by
  have K := Lib.hid (ValidFixtures_any A n c L w hr hn hb hcap hwf)
  have Hn := Lib.hid hn
  have HR := Lib.hid hr
  clear hr hn hwf
  cases hv : vfs L
  · have H := Lib.hid (show freeR L u wd = (0, 1) by unfold freeR; rw [if_pos hv])
    rw [hv] at K
    clear hv
    go_enter Try.func18, Try.ntmps18
    go_wp2_with (go_at_call 25; refine K.out.mono ?_; rintro e w1 ⟨rfl, g1⟩; have G1 := Lib.hid g1; clear g1)
    go_ret2
    exact ⟨ret_ii H.out, G1.out⟩
  rw [hv] at K
  have HV := Lib.hid hv
  have HF := Lib.hid (show freeR L u wd = if inB u 1 8 = false then (0, 2) else if inB wd 1 64 = false then (0, 2) else freeGo L u wd 513 1 by unfold freeR; rw [if_neg (by rw [hv]; simp)])
  clear hv
  cases hu : inB u 1 8
  · have H := Lib.hid (show freeR L u wd = (0, 2) by rw [HF.out, if_pos hu])
    go_enter Try.func18, Try.ntmps18
    go_wp2_with (first | (go_at_call 25; refine K.out.mono ?_; rintro e w1 ⟨rfl, g1⟩; have G1 := Lib.hid g1; clear g1) | (go_at_call 26; refine (within_any _ _ _ _).mono ?_; rintro e w' ⟨rfl, rfl⟩))
    go_ret2
    exact ⟨ret_ii H.out, G1.out⟩
  cases hw : inB wd 1 64
  · have H := Lib.hid (show freeR L u wd = (0, 2) by rw [HF.out, if_neg (by rw [hu]; simp), if_pos hw])
    go_enter Try.func18, Try.ntmps18
    go_wp2_with (first | (go_at_call 25; refine K.out.mono ?_; rintro e w1 ⟨rfl, g1⟩; have G1 := Lib.hid g1; clear g1) | (go_at_call 26; refine (within_any _ _ _ _).mono ?_; rintro e w' ⟨rfl, rfl⟩))
    go_ret2
    exact ⟨ret_ii H.out, G1.out⟩
  have HE := Lib.hid (show freeR L u wd = freeGo L u wd 513 1 by rw [HF.out, if_neg (by rw [hu]; simp), if_neg (by rw [hw]; simp)])
  have hub := inB_iff.1 hu
  have hwb := inB_iff.1 hw
  go_enter Try.func18, Try.ntmps18
  go_wp2_with (first | (go_at_call 25; refine K.out.mono ?_; rintro e w1 ⟨rfl, g1⟩; have G1 := Lib.hid g1; clear g1) | (go_at_call 26; refine (within_any _ _ _ _).mono ?_; rintro e w' ⟨rfl, rfl⟩))
  clear hu hw K HF
  have HM := Lib.hid (show ∀ x ∈ L, Mid x from fun x hx => by obtain ⟨i, hi⟩ := List.mem_iff_getElem?.1 hx; exact Mid_of (vfs_at HV.out hi))
  go_loopw [8] (fun i wr => ∃ (f : Nat) (a : Int), i = .int .i64 a ∧ 1 ≤ a ∧ a + f = 514 ∧ freeGo L u wd f a = freeR L u wd ∧ G w wr) (fun i _ => (514 - intOf i).toNat)
  case atStart => exact ⟨513, 1, rfl, by omega, by omega, HE.out.symm, G1.out⟩
  case round =>
    obtain ⟨f, a, rfl, ha1, haf, hgo, hg⟩ := hrel
    have G0 := Lib.hid hg
    have HGO := Lib.hid hgo
    clear hg hgo
    by_cases hlt : a ≤ 513 - wd
    · obtain ⟨f, rfl⟩ : ∃ f', f = f' + 1 := ⟨f - 1, by omega⟩
      have hmid : Mid (addrF u a wd) := by unfold Mid addrF; simp only; omega
      have KI := Lib.hid (freeIx_any (addrF u a wd) hmid wr.heap.size A n c L (wr.alloc (.cells #[.string ⟨#[]⟩, .int .i64 u, .int .i64 a, .int .i64 wd] 34)) (HR.out.G (G0.out.alloc _)) Hn.out hb HM.out (World.cell?_alloc_at _ _ _ _ rfl) (World.cell?_alloc_at _ _ _ _ rfl) (World.cell?_alloc_at _ _ _ _ rfl) (World.cell?_alloc_at _ _ _ _ rfl))
      clear hmid
      rcases idxOf_cases (hitSh (addrF u a wd)) L with ⟨hi, hany⟩ | ⟨j, y, hi, _, _, hany⟩
      · rw [hi] at KI
        have H := Lib.hid (show freeR L u wd = (a, 0) by rw [← HGO.out, freeGo_free (by omega) hany])
        clear hi hany
        go_wp2_with (first | (go_at_call 38; refine KI.out.mono ?_; rintro e w2 ⟨rfl, g2⟩; have G2 := Lib.hid ((G0.out.alloc _).trans g2); clear g2) | go_in)
        go_ret2
        exact ⟨ret_ii H.out, G2.out⟩
      · rw [hi] at KI
        have H := Lib.hid (show freeGo L u wd f (a + 1) = freeR L u wd by rw [← HGO.out, freeGo_hit (by omega) hany])
        clear hi hany
        go_wp2_with (first | (go_at_call 38; refine KI.out.mono ?_; rintro e w2 ⟨rfl, g2⟩; have G2 := Lib.hid ((G0.out.alloc _).trans g2); clear g2) | go_in)
        go_roundw
        case rel => exact ⟨f, a + 1, rfl, by omega, by omega, H.out, G2.out⟩
        case measure => simp [intOf]; omega
    · have H := Lib.hid (show freeR L u wd = (0, 5) by rw [← HGO.out, freeGo_end (by omega)])
      go_wp2
      go_ret2
      exact ⟨ret_ii H.out, G0.out⟩

end Go.Proofs.Ytckenipmebeopaa
