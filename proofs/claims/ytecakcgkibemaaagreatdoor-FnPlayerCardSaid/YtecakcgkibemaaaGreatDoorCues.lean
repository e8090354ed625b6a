/-
  Walks: cues compared, cues found; by both texts.
-/
import Derived.Test.YtecakcgkibemaaaGreatDoorCue
import Derived.Test.YtecakcgkibemaaaGreatDoorIdx
import Derived.Test.YtecakcgkibemaaaGreatDoorExt
import Derived.Deep.RegionHeld3
import Derived.Deep.DrawnRows
namespace Go.Proofs.YtecakcgkibemaaaGreatDoor
open Go.RowKit
attribute [local go_sem ↓] Go.wp_at_zero Go.wp_at_succ

def cmpI (a b : Int) : Int := if a < b then -1 else if b < a then 1 else 0
def cmpS (a b : ByteArray) : Int := if ltS a b = true then -1 else if ltS b a = true then 1 else 0
def cmpC (a b : SCue) : Int := if cmpI a.Time b.Time = 0 then cmpS a.Id b.Id else cmpI a.Time b.Time
def orV (a b : Int) : Int := if a = 0 then b else a
theorem cmpC_lt (a b : SCue) : decide (0 ≤ cmpC a b) = !ltCu a b := by
  unfold cmpC cmpI cmpS ltCu
  by_cases h1 : a.Time < b.Time
  · simp [h1]
  · by_cases h2 : b.Time < a.Time
    · have : ¬ a.Time = b.Time := by omega
      simp [h1, h2, this]
    · have : a.Time = b.Time := by omega
      cases h3 : ltS a.Id b.Id <;> cases h4 : ltS b.Id a.Id <;> simp [this]

set_option maxHeartbeats 400000 in
theorem isNaNI_any (a : Int) (w : World) :
    Calls Tryz.prog 94 #[.int .i64 a] w fun e w' => e = .returned (.bool false) ∧ w = w' := by
  go_enter Tryz.func94, Tryz.ntmps94
  go_wp2
  go_ret
  exact ⟨by simp, rfl⟩
set_option maxHeartbeats 1000000 in
theorem compareI_any (a b : Int) (w : World) :
    Calls Tryz.prog 72 #[.int .i64 a, .int .i64 b] w fun e w' => e = .returned (.int .i64 (cmpI a b)) ∧ w = w' := by
  by_cases h1 : a < b
  · have H := Lib.hid (show cmpI a b = -1 by simp [cmpI, h1])
    go_enter Tryz.func72, Tryz.ntmps72
    go_wp2_with (go_at_call 94; refine (isNaNI_any _ _).mono ?_; rintro e w' ⟨rfl, rfl⟩)
    go_ret
    exact ⟨ret_int H.out.symm, rfl⟩
  · by_cases h2 : b < a
    · have H := Lib.hid (show cmpI a b = 1 by simp [cmpI, h1, h2])
      go_enter Tryz.func72, Tryz.ntmps72
      go_wp2_with (go_at_call 94; refine (isNaNI_any _ _).mono ?_; rintro e w' ⟨rfl, rfl⟩)
      go_ret
      exact ⟨ret_int H.out.symm, rfl⟩
    · have H := Lib.hid (show cmpI a b = 0 by simp [cmpI, h1, h2])
      go_enter Tryz.func72, Tryz.ntmps72
      go_wp2_with (go_at_call 94; refine (isNaNI_any _ _).mono ?_; rintro e w' ⟨rfl, rfl⟩)
      go_ret
      exact ⟨ret_int H.out.symm, rfl⟩
set_option maxHeartbeats 400000 in
theorem isNaNS_any (a : ByteArray) (w : World) :
    Calls Tryz.prog 95 #[.string a] w fun e w' => e = .returned (.bool false) ∧ w = w' := by
  go_enter Tryz.func95, Tryz.ntmps95
  go_wp2
  go_ret
  exact ⟨by simp, rfl⟩
set_option maxHeartbeats 1000000 in
theorem compareS_any (a b : ByteArray) (w : World) :
    Calls Tryz.prog 73 #[.string a, .string b] w fun e w' => e = .returned (.int .i64 (cmpS a b)) ∧ w = w' := by
  have hir : ∀ l : List UInt8, Op.bytesLess l l = false := fun l => by
    induction l with
    | nil => rfl
    | cons y l ih => simp [Op.bytesLess, ih]
  have htr : ∀ x y : List UInt8, (Op.bytesLess x y || x == y) = !Op.bytesLess y x := fun x => by
    induction x with
    | nil => intro y; cases y <;> simp [Op.bytesLess]
    | cons a x ih =>
      intro y
      cases y with
      | nil => simp [Op.bytesLess]
      | cons b y =>
        have := ih y
        simp only [Op.bytesLess, List.cons_beq_cons]
        by_cases h1 : a < b
        · have h2 : ¬ b < a := UInt8.lt_asymm h1
          have h3 : ¬ b = a := fun e => by subst e; exact UInt8.lt_irrefl _ h1
          simp [h1, h2, h3]
        · by_cases h2 : b < a
          · have h3 : ¬ a = b := fun e => by subst e; exact UInt8.lt_irrefl _ h2
            simp [h1, h2, h3]
          · have h3 : a = b := UInt8.le_antisymm (UInt8.not_lt.1 h2) (UInt8.not_lt.1 h1)
            subst h3
            simpa [h1] using this
  have hg := htr a.toList b.toList
  cases h1 : ltS a b
  · have l1 : Op.bytesLess a.toList b.toList = false := h1
    cases h2 : ltS b a
    · have H := Lib.hid (show cmpS a b = 0 by simp [cmpS, h1, h2])
      have l2 : Op.bytesLess b.toList a.toList = false := h2
      have l3 : (a.toList == b.toList) = true := by rw [l1, l2] at hg; simpa using hg
      clear h1 h2 hir htr hg
      go_enter Tryz.func73, Tryz.ntmps73
      go_wp2_with (go_at_call 95; refine (isNaNS_any _ _).mono ?_; rintro e w' ⟨rfl, rfl⟩)
      go_ret
      exact ⟨ret_int H.out.symm, rfl⟩
    · have H := Lib.hid (show cmpS a b = 1 by simp [cmpS, h1, h2])
      have l2 : Op.bytesLess b.toList a.toList = true := h2
      have l3 : (a.toList == b.toList) = false := by rw [l1, l2] at hg; simpa using hg
      clear h1 h2 hir htr hg
      go_enter Tryz.func73, Tryz.ntmps73
      go_wp2_with (go_at_call 95; refine (isNaNS_any _ _).mono ?_; rintro e w' ⟨rfl, rfl⟩)
      go_ret
      exact ⟨ret_int H.out.symm, rfl⟩
  · have l1 : Op.bytesLess a.toList b.toList = true := h1
    have H := Lib.hid (show cmpS a b = -1 by simp [cmpS, h1])
    clear h1 hir htr hg
    go_enter Tryz.func73, Tryz.ntmps73
    go_wp2_with (go_at_call 95; refine (isNaNS_any _ _).mono ?_; rintro e w' ⟨rfl, rfl⟩)
    go_ret
    exact ⟨ret_int H.out.symm, rfl⟩

set_option maxHeartbeats 1000000 in
theorem or2_any (a b : Int) (A : Addr) (w : World) (hA : A.spot = none) (hc0 : w.cell? ⟨A.block, A.off + 0, none⟩ = some (.int .i64 a)) (hc1 : w.cell? ⟨A.block, A.off + 1, none⟩ = some (.int .i64 b)) :
    Calls Tryz.prog 71 #[.slice (some A) 2 2] w fun e w' => e = .returned (.int .i64 (orV a b)) ∧ w = w' := by
  obtain ⟨blk, off, spot⟩ := A
  simp only at hA hc0 hc1
  subst hA
  have HL : ∀ k : Nat, k < 2 → ∃ x, w.cell? ⟨blk, off + k, none⟩ = some (.int .i64 x) ∧ (k = 0 → x = a) ∧ (k = 1 → x = b) := by
    intro k hk
    match k, hk with
    | 0, _ => exact ⟨a, hc0, fun _ => rfl, fun h => by cases h⟩
    | 1, _ => exact ⟨b, hc1, fun h => (by cases h), fun _ => rfl⟩
  have HL2 := Lib.hid HL
  clear HL hc0 hc1
  go_enter Tryz.func71, Tryz.ntmps71
  go_wp2
  go_loop [8] (fun i => ∃ k : Nat, k ≤ 2 ∧ i = .int .i64 k ∧ (1 ≤ k → Hid (a = 0)) ∧ (2 ≤ k → Hid (b = 0))) (fun i => 2 - (intOf i).toNat)
  case atStart => exact ⟨0, Nat.zero_le _, rfl, fun h => (by omega), fun h => (by omega)⟩
  case round =>
    obtain ⟨k, hk, rfl, h1, h2⟩ := hrel
    have H1 := Lib.hid h1
    have H2 := Lib.hid h2
    clear h1 h2
    by_cases hlt : k < 2
    · obtain ⟨x, hx, hx0, hx1⟩ := HL2.out k hlt
      have X0 := Lib.hid hx0
      have X1 := Lib.hid hx1
      clear hx0 hx1
      by_cases hz : x = 0
      · have hq : (x == 0) = true := by simp [hz]
        have HZ := Lib.hid hz
        clear hz
        go_wp2
        go_round
        case rel => exact ⟨k + 1, by omega, by go_num, fun _ => by
            by_cases hk0 : k = 0
            · exact Lib.hid (by rw [← X0.out hk0]; exact HZ.out)
            · exact H1.out (by omega), fun h => Lib.hid (by rw [← X1.out (by omega)]; exact HZ.out)⟩
        case measure => simp [intOf]; omega
      · have hq : (x == 0) = false := by simpa using hz
        have HR := Lib.hid (show orV a b = x by
          unfold orV
          by_cases hk0 : k = 0
          · rw [← X0.out hk0, if_neg hz]
          · rw [if_pos (H1.out (by omega)).out, ← X1.out (by omega)])
        clear hz
        go_wp2
        go_ret
        exact ⟨ret_int HR.out.symm, rfl⟩
    · have HR := Lib.hid (show orV a b = 0 by unfold orV; rw [if_pos (H1.out (by omega)).out, (H2.out (by omega)).out])
      go_wp2
      go_ret
      exact ⟨ret_int HR.out.symm, rfl⟩

set_option maxRecDepth 20000 in
set_option maxHeartbeats 2000000 in
theorem compareCues_any (x y : SCue) (w : World) :
    Calls Tryz.prog 53 #[.agg #[.string x.Id, .int .i64 x.Time, .int .i64 x.Length, .string x.Target, .int .i64 x.Action, .int .i64 x.Value], .agg #[.string y.Id, .int .i64 y.Time, .int .i64 y.Length, .string y.Target, .int .i64 y.Action, .int .i64 y.Value]] w fun e w' => e = .returned (.int .i64 (cmpC x y)) ∧ G w w' := by
  obtain ⟨p, HP⟩ : ∃ p, Hid (cmpI x.Time y.Time = p) := ⟨_, rfl⟩
  obtain ⟨q, HQ⟩ : ∃ q, Hid (cmpS x.Id y.Id = q) := ⟨_, rfl⟩
  have HC := Lib.hid (show cmpC x y = orV p q by unfold cmpC orV; rw [HP.out, HQ.out])
  have KP := Lib.hid (fun W => compareI_any x.Time y.Time W)
  rw [HP.out] at KP
  have KQ := Lib.hid (fun W => compareS_any x.Id y.Id W)
  rw [HQ.out] at KQ
  have X0 : ((w.alloc (.cells #[.string x.Id, .int .i64 x.Time, .int .i64 x.Length, .string x.Target, .int .i64 x.Action, .int .i64 x.Value] 49)).alloc (.cells #[.string y.Id, .int .i64 y.Time, .int .i64 y.Length, .string y.Target, .int .i64 y.Action, .int .i64 y.Value] 49)).cell? ⟨w.heap.size, 0, none⟩ = some (.string x.Id) := by simp [World.cell?_alloc_at, World.cell?_alloc_past]
  have X1 : ((w.alloc (.cells #[.string x.Id, .int .i64 x.Time, .int .i64 x.Length, .string x.Target, .int .i64 x.Action, .int .i64 x.Value] 49)).alloc (.cells #[.string y.Id, .int .i64 y.Time, .int .i64 y.Length, .string y.Target, .int .i64 y.Action, .int .i64 y.Value] 49)).cell? ⟨w.heap.size, 1, none⟩ = some (.int .i64 x.Time) := by simp [World.cell?_alloc_at, World.cell?_alloc_past]
  have Y0 : ((w.alloc (.cells #[.string x.Id, .int .i64 x.Time, .int .i64 x.Length, .string x.Target, .int .i64 x.Action, .int .i64 x.Value] 49)).alloc (.cells #[.string y.Id, .int .i64 y.Time, .int .i64 y.Length, .string y.Target, .int .i64 y.Action, .int .i64 y.Value] 49)).cell? ⟨w.heap.size + 1, 0, none⟩ = some (.string y.Id) := by simp [World.cell?_alloc_at]
  have Y1 : ((w.alloc (.cells #[.string x.Id, .int .i64 x.Time, .int .i64 x.Length, .string x.Target, .int .i64 x.Action, .int .i64 x.Value] 49)).alloc (.cells #[.string y.Id, .int .i64 y.Time, .int .i64 y.Length, .string y.Target, .int .i64 y.Action, .int .i64 y.Value] 49)).cell? ⟨w.heap.size + 1, 1, none⟩ = some (.int .i64 y.Time) := by simp [World.cell?_alloc_at]
  go_enter Tryz.func53, Tryz.ntmps53
  go_wp2
  go_region_held3 (fun w' => w'.cell? ⟨w.heap.size, 0, none⟩ = some (.string x.Id) ∧ w'.cell? ⟨w.heap.size, 1, none⟩ = some (.int .i64 x.Time) ∧ w'.cell? ⟨w.heap.size + 1, 0, none⟩ = some (.string y.Id) ∧ w'.cell? ⟨w.heap.size + 1, 1, none⟩ = some (.int .i64 y.Time)) (first | go_keep | exact ⟨((G.refl _).alloc _).cell X0, ((G.refl _).alloc _).cell X1, ((G.refl _).alloc _).cell Y0, ((G.refl _).alloc _).cell Y1⟩) (first | (go_at_call 72; refine (KP.out _).mono ?_; rintro e w' ⟨rfl, rfl⟩) | (go_at_call 73; refine (KQ.out _).mono ?_; rintro e w' ⟨rfl, rfl⟩) | (go_at_call 71; refine (or2_any p q _ _ ?h1 ?h2 ?h3).mono ?_; (case h1 => rfl); (case h2 => simp [World.cell?_alloc_at]); (case h3 => simp [World.cell?_alloc_at]); rintro e w' ⟨rfl, rfl⟩))
  all_goals
    go_wp2
    go_ret
    exact ⟨ret_int HC.out.symm, ((((G.refl w).alloc _).alloc _).drew).alloc _⟩

def nmC (s : ByteArray) (x : SCue) : Bool := x.Id.toList == s.toList
theorem Rd.take {α : Type} {w : World} {A : Option Addr} {sz : Nat} {f : α → List Value} {L : List α} (h : Rd w A sz f L) (i : Nat) : Rd w A sz f (L.take i) := fun hn => by
  obtain ⟨b, o, e, hc⟩ := h (by rintro rfl; simp at hn)
  refine ⟨b, o, e, fun k x j u hk hj => hc k x j u ?_ hj⟩
  rw [List.getElem?_take] at hk
  split at hk
  · exact hk
  · cases hk

set_option maxHeartbeats 1000000 in
theorem cueClosure_any (s : ByteArray) (x : SCue) (b : Nat) (w : World) (hc : w.cell? ⟨b, 0, none⟩ = some (.string s)) :
    Calls Tryz.prog 75 #[.agg #[.string x.Id, .int .i64 x.Time, .int .i64 x.Length, .string x.Target, .int .i64 x.Action, .int .i64 x.Value], .pointer (some ⟨b, 0, none⟩)] w fun e w' => e = .returned (.bool (nmC s x)) ∧ G w w' := by
  have d0 := ((G.refl w).alloc (.cells #[.string x.Id, .int .i64 x.Time, .int .i64 x.Length, .string x.Target, .int .i64 x.Action, .int .i64 x.Value] 49)).cell hc
  clear hc
  go_enter Tryz.func75, Tryz.ntmps75
  go_wp2
  go_ret
  exact ⟨rfl, (G.refl _).alloc _⟩

set_option maxRecDepth 20000 in
set_option maxHeartbeats 2000000 in
theorem cueIx_any (s : ByteArray) (b : Nat) (A : Option Addr) (n c : Nat) (L : List SCue) (w : World) (hr : Rd w A 6 cCue L) (hn : L.length = n) (hb : n ≤ 4194304) (hc0 : w.cell? ⟨b, 0, none⟩ = some (.string s)) :
    Calls Tryz.prog 74 #[.slice A n c, .func (.func 75) #[] #[.pointer (some ⟨b, 0, none⟩)]] w fun e w' => e = .returned (.int .i64 (idxOf (nmC s) L)) ∧ G w w' := by
  have Hn := Lib.hid hn
  have HR := Lib.hid hr
  clear hr hn
  have C0 := Lib.hid hc0
  clear hc0
  go_enter Tryz.func74, Tryz.ntmps74
  go_wp2
  go_loopw [8] (fun i wr => ∃ k : Nat, k ≤ n ∧ i = .int .i64 k ∧ (L.take k).all (fun y => !(nmC s) y) = true ∧ G w wr) (fun i _ => n - (intOf i).toNat)
  case atStart => exact ⟨0, Nat.zero_le _, rfl, by simp, G.refl _⟩
  case round =>
    obtain ⟨k, hk, rfl, ha, hg⟩ := hrel
    have HA := Lib.hid ha
    have G0 := Lib.hid hg
    clear ha hg
    by_cases hlt : k < n
    · obtain ⟨b1, o, x, rfl, hx, hc0, hc1, hc2, hc3, hc4, hc5⟩ := (HR.out.G G0.out).Cue (k := k) (by rw [Hn.out]; exact hlt)
      have HX := Lib.hid hx
      have K := Lib.hid (cueClosure_any s x b wr (G0.out.cell C0.out))
      clear hx
      cases hv : (nmC s) x
      · rw [hv] at K
        have H := Lib.hid (all_snoc (p := fun y => !(nmC s) y) HX.out HA.out (by simp [hv]))
        clear hv
        go_wp2_with (go_at_call 75; refine K.out.mono ?_; rintro e w1 ⟨rfl, g1⟩; have G1 := Lib.hid (G0.out.trans g1); clear g1)
        go_roundw
        case rel => exact ⟨k + 1, by omega, by go_num, H.out, G1.out⟩
        case measure => simp [intOf]; omega
      · rw [hv] at K
        have H := Lib.hid (idxOf_hit HX.out HA.out hv)
        clear hv
        go_wp2_with (go_at_call 75; refine K.out.mono ?_; rintro e w1 ⟨rfl, g1⟩; have G1 := Lib.hid (G0.out.trans g1); clear g1)
        go_ret
        exact ⟨ret_int H.out.symm, G1.out⟩
    · have H := Lib.hid (idxOf_none (p := (nmC s)) (all_take_all (by rw [Hn.out]; omega) HA.out))
      go_wp2
      go_ret
      exact ⟨ret_int H.out.symm, G0.out⟩

set_option maxHeartbeats 1000000 in
theorem cueIndex_any (A : Option Addr) (n c : Nat) (L : List SCue) (s : ByteArray) (w : World) (hr : Rd w A 6 cCue L) (hn : L.length = n) (hb : n ≤ 4194304) :
    Calls Tryz.prog 54 #[.slice A n c, .string s] w fun e w' => e = .returned (.int .i64 (idxOf (nmC s) L)) ∧ G w w' := by
  have K := Lib.hid (cueIx_any s w.heap.size A n c L (w.alloc (.cells #[.string s] 9)) (hr.G ((G.refl w).alloc _)) hn hb (World.cell?_alloc_at _ _ _ _ rfl))
  clear hr hn
  go_enter Tryz.func54, Tryz.ntmps54
  go_wp2_with (go_at_call 74; refine K.out.mono ?_; rintro e w2 ⟨rfl, g2⟩; have G2 := Lib.hid (((G.refl w).alloc _).trans g2); clear g2)
  go_ret
  exact ⟨rfl, G2.out⟩

set_option maxHeartbeats 1000000 in
theorem l13Find_any (A : Option Addr) (n c : Nat) (L : List SCue) (s : ByteArray) (w : World) (hr : Rd w A 6 cCue L) (hn : L.length = n) (hb : n ≤ 4194304) :
    Calls Tryz.prog 40 #[.slice A n c, .string s] w fun e w' => e = .returned (.int .i64 (idxOf (nmC s) L)) ∧ w = w' := by
  have Hn := Lib.hid hn
  have HR := Lib.hid hr
  clear hr hn
  go_enter Tryz.func40, Tryz.ntmps40
  go_wp2
  go_loop [5] (fun i => ∃ k : Nat, k ≤ n ∧ i = .int .i64 k ∧ (L.take k).all (fun y => !nmC s y) = true) (fun i => n - (intOf i).toNat)
  case atStart => exact ⟨0, Nat.zero_le _, rfl, by simp⟩
  case round =>
    obtain ⟨k, hk, rfl, ha⟩ := hrel
    have HA := Lib.hid ha
    clear ha
    by_cases hlt : k < n
    · obtain ⟨b1, o, x, rfl, hx, hc0, hc1, hc2, hc3, hc4, hc5⟩ := HR.out.Cue (k := k) (by rw [Hn.out]; exact hlt)
      have HX := Lib.hid hx
      clear hx
      cases hv : nmC s x
      · have H := Lib.hid (all_snoc (p := fun y => !nmC s y) HX.out HA.out (by simp [hv]))
        have hq : (x.Id.toList == s.toList) = false := hv
        clear hv
        go_wp2
        go_round
        case rel => exact ⟨k + 1, by omega, by go_num, H.out⟩
        case measure => simp [intOf]; omega
      · have H := Lib.hid (idxOf_hit HX.out HA.out hv)
        have hq : (x.Id.toList == s.toList) = true := hv
        clear hv
        go_wp2
        go_ret
        exact ⟨ret_int H.out.symm, rfl⟩
    · have H := Lib.hid (idxOf_none (p := nmC s) (all_take_all (by rw [Hn.out]; omega) HA.out))
      go_wp2
      go_ret
      exact ⟨ret_int H.out.symm, rfl⟩

set_option maxRecDepth 20000 in
set_option maxHeartbeats 2000000 in
theorem l13One_any (x : SCue) (hw : WfCue x) (b o : Nat) (w : World) (hc0 : w.cell? ⟨b, o, none⟩ = some (.string x.Id)) (hc1 : w.cell? ⟨b, o + 1, none⟩ = some (.int .i64 x.Time)) (hc2 : w.cell? ⟨b, o + 2, none⟩ = some (.int .i64 x.Length)) (hc3 : w.cell? ⟨b, o + 3, none⟩ = some (.string x.Target)) (hc4 : w.cell? ⟨b, o + 4, none⟩ = some (.int .i64 x.Action)) (hc5 : w.cell? ⟨b, o + 5, none⟩ = some (.int .i64 x.Value)) :
    Calls Tryz.prog 39 #[.pointer (some ⟨b, o, none⟩)] w fun e w' => e = .returned (.bool (vcuB x)) ∧ G w w' := by
  unfold WfCue at hw
  obtain ⟨hw1, hw2⟩ := hw
  have ga1 := cellR hc1
  have ga2 := cellR hc2
  refine vcuB_cases x _ (fun h1 h => ?_) (fun h1 h2 h => ?_) (fun h1 h2 h3 h => ?_) (fun h1 h2 h3 h4 h => ?_) (fun h1 h2 h3 h4 h => ?_)
  case' refine_5 =>
    have hb := inB_iff.1 h3
    have hw7 : IntKind.i64.wrap (7200000 - x.Time) = 7200000 - x.Time := IntWalk.i64_in _ (by omega)
    refine actB_cases x _ (fun q1 q => ?_) (fun q1 q2 q => ?_) (fun q1 q2 q3 q4 q => ?_) (fun q1 q2 q3 q4 q => ?_) (fun q1 q2 q3 q => ?_)
    all_goals rw [q] at h; clear q
  case refine_5.refine_2 =>
    have H := Lib.hid h
    clear h
    go_enter Tryz.func39, Tryz.ntmps39
    go_wp2_with (first | (go_at_call 55; refine (l01Name_any _ (by assumption) _).mono ?_; rintro e w' ⟨rfl, rfl⟩) | (go_at_call 56; refine (l13Time_any _ _).mono ?_; rintro e w' ⟨rfl, rfl⟩) | (go_at_call 57; refine (l00In_any _ _ _ _).mono ?_; rintro e w' ⟨rfl, rfl⟩))
    refine region_quiet_G (by kernel_rfl) (by kernel_rfl) ?_; (repeat (go_big_quiet_step (((go_at_call 57; exact quiet_G_same (l00In_any _ _ _ _)))))); refine wpQuiet_nil ?_
    intro w2 g2
    clear ga1 ga2
    go_wp2
    go_ret
    exact ⟨ret_bool (by first | exact H.out.symm | exact H.out), g2⟩
  all_goals
    clear ga1 ga2
    have H := Lib.hid h
    clear h
    go_enter Tryz.func39, Tryz.ntmps39
    go_wp2_with (first | (go_at_call 55; refine (l01Name_any _ (by assumption) _).mono ?_; rintro e w' ⟨rfl, rfl⟩) | (go_at_call 56; refine (l13Time_any _ _).mono ?_; rintro e w' ⟨rfl, rfl⟩) | (go_at_call 57; refine (l00In_any _ _ _ _).mono ?_; rintro e w' ⟨rfl, rfl⟩))
    go_ret
    exact ⟨ret_bool (by first | exact H.out.symm | exact H.out), G.refl _⟩

set_option maxRecDepth 20000 in
set_option maxHeartbeats 2000000 in
theorem l13Before_any (x y : SCue) (b o b2 o2 : Nat) (w : World) (hc0 : w.cell? ⟨b, o, none⟩ = some (.string x.Id)) (hc1 : w.cell? ⟨b, o + 1, none⟩ = some (.int .i64 x.Time)) (hd0 : w.cell? ⟨b2, o2, none⟩ = some (.string y.Id)) (hd1 : w.cell? ⟨b2, o2 + 1, none⟩ = some (.int .i64 y.Time)) :
    Calls Tryz.prog 41 #[.pointer (some ⟨b, o, none⟩), .pointer (some ⟨b2, o2, none⟩)] w fun e w' => e = .returned (.bool (ltCu x y)) ∧ G w w' := by
  have ga0 := cellR hc0
  have ga1 := cellR hc1
  have gb0 := cellR hd0
  have gb1 := cellR hd1
  clear hc0 hc1 hd0 hd1
  by_cases h1 : x.Time < y.Time
  · have H := Lib.hid (show ltCu x y = true by simp [ltCu, h1])
    have q1 : decide (x.Time < y.Time) = true := by simpa using h1
    clear h1
    go_enter Tryz.func41, Tryz.ntmps41
    go_wp2
    refine region_quiet_G (by kernel_rfl) (by kernel_rfl) ?_; (repeat (go_big_quiet_step ((fail)))); refine wpQuiet_nil ?_
    intro w2 g2
    clear ga0 ga1 gb0 gb1
    go_wp2
    go_ret
    exact ⟨ret_bool H.out.symm, g2⟩
  · have q1 : decide (x.Time < y.Time) = false := by simpa using h1
    by_cases h2 : x.Time = y.Time
    · have q2 : (x.Time == y.Time) = true := by simp [h2]
      cases h3 : ltS x.Id y.Id
      all_goals
        have H := Lib.hid (show ltCu x y = _ from (show ltCu x y = ltS x.Id y.Id by simp [ltCu, h2]).trans h3)
        have q3 : Op.bytesLess x.Id.toList y.Id.toList = _ := h3
        clear h1 h2 h3
        go_enter Tryz.func41, Tryz.ntmps41
        go_wp2
        refine region_quiet_G (by kernel_rfl) (by kernel_rfl) ?_; (repeat (go_big_quiet_step ((fail)))); refine wpQuiet_nil ?_
        intro w2 g2
        clear ga0 ga1 gb0 gb1
        go_wp2
        go_ret
        exact ⟨ret_bool H.out.symm, g2⟩
    · have H := Lib.hid (show ltCu x y = false by simp [ltCu, h1, h2])
      have q2 : (x.Time == y.Time) = false := by simpa using h2
      clear h1 h2
      go_enter Tryz.func41, Tryz.ntmps41
      go_wp2
      refine region_quiet_G (by kernel_rfl) (by kernel_rfl) ?_; (repeat (go_big_quiet_step ((fail)))); refine wpQuiet_nil ?_
      intro w2 g2
      clear ga0 ga1 gb0 gb1
      go_wp2
      go_ret
      exact ⟨ret_bool H.out.symm, g2⟩
end Go.Proofs.YtecakcgkibemaaaGreatDoor
