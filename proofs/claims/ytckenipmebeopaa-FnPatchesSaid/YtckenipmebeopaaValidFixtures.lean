/-
  Walks: a valid patch, by both texts.
-/
import Derived.Test.YtckenipmebeopaaFixture
import Derived.Test.YtckenipmebeopaaChk
import Derived.Handy
namespace Go.Proofs.Ytckenipmebeopaa
open Go.RowKit

def ltF (a b : SFixture) : Bool := ltS a.Name b.Name
def noSh (L : List SFixture) (k i : Nat) : Bool := match L[k]?, L[i]? with
  | some a, some b => decide (shF a b ≤ 0)
  | _, _ => true
def vfsAt (L : List SFixture) (i : Nat) : Bool := okAt vfB ltF L i && (List.range i).all fun k => noSh L k i
def vfs (L : List SFixture) : Bool := decide (L.length ≤ 16) && (List.range L.length).all (vfsAt L)
theorem shF_comm (a b : SFixture) : shF a b = shF b a := by
  unfold shF
  by_cases h : a.Universe = b.Universe
  · rw [if_pos h, if_pos h.symm]; omega
  · rw [if_neg h, if_neg (fun e => h e.symm)]
section
variable {L : List SFixture}
theorem vfs_len (h : vfs L = true) : L.length ≤ 16 := by simp only [vfs, Bool.and_eq_true, decide_eq_true_eq] at h; exact h.1
theorem vfs_chk (h : vfs L = true) : chk vfB ltF L = true := by
  simp only [vfs, Bool.and_eq_true] at h
  unfold chk
  rw [List.all_eq_true]
  intro i hi
  have := List.all_eq_true.1 h.2 i hi
  simp only [vfsAt, Bool.and_eq_true] at this
  exact this.1
theorem vfs_at (h : vfs L = true) {k : Nat} {x : SFixture} (hx : L[k]? = some x) : vfB x = true := chk_all (vfs_chk h) hx
theorem vfs_apart (h : vfs L = true) {k j : Nat} {x y : SFixture} (hx : L[k]? = some x) (hy : L[j]? = some y) (hj : j < k) : shF y x ≤ 0 := by
  simp only [vfs, Bool.and_eq_true] at h
  have h1 := List.all_eq_true.1 h.2 k (List.mem_range.2 (List.getElem?_eq_some_iff.1 hx).1)
  simp only [vfsAt, Bool.and_eq_true] at h1
  have h2 := List.all_eq_true.1 h1.2 j (List.mem_range.2 hj)
  simpa [noSh, hx, hy] using h2
theorem vfs_bad {k : Nat} {x : SFixture} (hx : L[k]? = some x) (h : vfB x = false) : vfs L = false := by
  cases hv : vfs L
  · rfl
  · rw [vfs_at hv hx] at h; cases h
theorem vfs_rel {j : Nat} {x y : SFixture} (hx : L[j + 1]? = some x) (hy : L[j]? = some y) (h : ltF y x = false) : vfs L = false := by
  cases hv : vfs L
  · rfl
  · rw [chk_rel (vfs_chk hv) hx hy] at h; cases h
theorem vfs_share {k j : Nat} {x y : SFixture} (hx : L[k]? = some x) (hy : L[j]? = some y) (hj : j < k) (h : 0 < shF y x) : vfs L = false := by
  cases hv : vfs L
  · rfl
  · have := vfs_apart hv hx hy hj; omega
theorem vfsAt_step {k : Nat} (h : (List.range k).all (vfsAt L) = true) (h1 : okAt vfB ltF L k = true) (h2 : (List.range k).all (fun j => noSh L j k) = true) : (List.range (k + 1)).all (vfsAt L) = true := by
  rw [List.range_succ, List.all_append, h]; simp [vfsAt, h1, h2]
theorem noSh_step {k j : Nat} {x y : SFixture} (h : (List.range j).all (fun j => noSh L j k) = true) (hx : L[k]? = some x) (hy : L[j]? = some y) (hs : shF y x ≤ 0) : (List.range (j + 1)).all (fun j => noSh L j k) = true := by
  rw [List.range_succ, List.all_append, h]; simp [noSh, hx, hy, hs]
theorem vfsAt_valid {k j : Nat} {y : SFixture} (h : (List.range k).all (vfsAt L) = true) (hj : j < k) (hy : L[j]? = some y) : vfB y = true := by
  have h1 := List.all_eq_true.1 h j (List.mem_range.2 hj)
  simp only [vfsAt, Bool.and_eq_true] at h1
  have h2 := h1.1
  unfold okAt at h2
  rw [hy] at h2
  simp only [Bool.and_eq_true] at h2
  exact h2.1
end

set_option maxRecDepth 20000 in
set_option maxHeartbeats 8000000 in
theorem ValidFixtures_any (A : Option Addr) (n c : Nat) (L : List SFixture) (w : World) (hr : Rd w A 4 cFixture L) (hn : L.length = n) (hb : n ≤ 4194304) (hcap : n ≤ c) (hwf : ∀ x ∈ L, WfFixture x) :
    Calls Try.prog 25 #[.slice A n c] w fun e w' => e = .returned (.bool (vfs L)) ∧ G w w' := by
  have Hn := Lib.hid hn
  have HR := Lib.hid hr
  have HW := Lib.hid hwf
  clear hr hn hwf
  by_cases hlim : n ≤ 16
  case neg =>
    have H := Lib.hid (show vfs L = false by unfold vfs; rw [Hn.out, decide_eq_false hlim]; simp)
    go_enter Try.func25, Try.ntmps25
    go_wp2
    go_ret
    exact ⟨ret_bool H.out.symm, G.refl _⟩
  go_enter Try.func25, Try.ntmps25
  go_wp2
  go_loopw [12] (fun i wr => ∃ (k : Nat), k ≤ n ∧ i = .int .i64 k ∧ (List.range k).all (vfsAt L) = true ∧ G w wr) (fun i _ => n - (intOf i).toNat)
  case atStart => exact ⟨0, Nat.zero_le _, rfl, rfl, G.refl _⟩
  case round =>
    obtain ⟨k, hk, rfl, ha, hg⟩ := hrel
    obtain ⟨wo, rfl⟩ : ∃ wo : World, wo = wr := ⟨_, rfl⟩
    have HA := Lib.hid ha
    have G0 := Lib.hid hg
    clear ha hg
    by_cases hlt : k < n
    · obtain ⟨b, o, x, rfl, hx, hc0, hc1, hc2, hc3⟩ := (HR.out.G G0.out).Fixture (k := k) (by rw [Hn.out]; exact hlt)
      have hwx := Lib.hid (HW.out x (List.mem_of_getElem? hx))
      have HX := Lib.hid hx
      clear hx
      have ga0 := cellR (w := (wo.alloc (.cells #[.string x.Name, .int .i64 x.Universe, .int .i64 x.Address, .int .i64 x.Width] 34))) (a := ⟨wo.heap.size, 0, none⟩) (World.cell?_alloc_at _ _ _ _ rfl)
      have ga1 := cellR (w := (wo.alloc (.cells #[.string x.Name, .int .i64 x.Universe, .int .i64 x.Address, .int .i64 x.Width] 34))) (a := ⟨wo.heap.size, 1, none⟩) (World.cell?_alloc_at _ _ _ _ rfl)
      have ga2 := cellR (w := (wo.alloc (.cells #[.string x.Name, .int .i64 x.Universe, .int .i64 x.Address, .int .i64 x.Width] 34))) (a := ⟨wo.heap.size, 2, none⟩) (World.cell?_alloc_at _ _ _ _ rfl)
      have ga3 := cellR (w := (wo.alloc (.cells #[.string x.Name, .int .i64 x.Universe, .int .i64 x.Address, .int .i64 x.Width] 34))) (a := ⟨wo.heap.size, 3, none⟩) (World.cell?_alloc_at _ _ _ _ rfl)
      have fx0 : (wo.alloc (.cells #[.string x.Name, .int .i64 x.Universe, .int .i64 x.Address, .int .i64 x.Width] 34)).cell? ⟨wo.heap.size, 0, none⟩ = some (.string x.Name) := World.cell?_alloc_at _ _ _ _ rfl
      have fx1 : (wo.alloc (.cells #[.string x.Name, .int .i64 x.Universe, .int .i64 x.Address, .int .i64 x.Width] 34)).cell? ⟨wo.heap.size, 1, none⟩ = some (.int .i64 x.Universe) := World.cell?_alloc_at _ _ _ _ rfl
      have fx2 : (wo.alloc (.cells #[.string x.Name, .int .i64 x.Universe, .int .i64 x.Address, .int .i64 x.Width] 34)).cell? ⟨wo.heap.size, 2, none⟩ = some (.int .i64 x.Address) := World.cell?_alloc_at _ _ _ _ rfl
      have fx3 : (wo.alloc (.cells #[.string x.Name, .int .i64 x.Universe, .int .i64 x.Address, .int .i64 x.Width] 34)).cell? ⟨wo.heap.size, 3, none⟩ = some (.int .i64 x.Width) := World.cell?_alloc_at _ _ _ _ rfl
      have FX := Lib.hid (And.intro fx0 (And.intro fx1 (And.intro fx2 fx3)))
      clear fx0 fx1 fx2 fx3
      have C1 := Lib.hid (fun (W : World) => ValidFixture_any x W hwx.out)
      have hlt2 : (k : Int) < (n : Int) := by omega
      have hk0 : 0 ≤ (k : Int) := by omega
      cases hv : vfB x
      · have H := Lib.hid (vfs_bad HX.out hv)
        rw [hv] at C1
        go_wp2
        refine region_quiet_G (by kernel_rfl) (by kernel_rfl) ?_; (repeat (go_big_quiet_step (((go_at_call 32; exact quiet_G (C1.out _)))))); refine wpQuiet_nil ?_
        intro w2 hg2
        clear C1 ga0 ga1 ga2 ga3
        go_wp2
        go_ret
        exact ⟨ret_bool H.out.symm, (G0.out.alloc _).trans hg2⟩
      have HV := Lib.hid hv
      have MX := Lib.hid (Mid_of hv)
      rw [hv] at C1
      clear hv
      cases k with
      | zero =>
        simp only [Nat.zero_mul, Nat.add_zero] at hc0 hc1 hc2 hc3
        go_wp2
        refine region_quiet_G (by kernel_rfl) (by kernel_rfl) ?_; (repeat (go_big_quiet_step (((go_at_call 32; exact quiet_G (C1.out _)))))); refine wpQuiet_nil ?_
        intro w2 hg2
        clear C1 ga0 ga1 ga2 ga3 hc0 hc1 hc2 hc3
        have G1 := Lib.hid ((G0.out.alloc _).trans hg2)
        clear hg2
        go_wp2
        go_rounds 1
        go_wp2
        go_roundw
        case rel => exact ⟨1, by omega, rfl, vfsAt_step HA.out (okAt_first HX.out HV.out) rfl, G1.out⟩
        case measure => simp [intOf]; omega
      | succ j =>
        obtain ⟨b', o', y, hA', hy, hd0, _, _, _⟩ := (HR.out.G G0.out).Fixture (k := j) (by rw [Hn.out]; omega)
        obtain ⟨rfl, rfl⟩ : b = b' ∧ o = o' := by simpa using hA'
        have HY := Lib.hid hy
        have gd0 := cellR (w := (wo.alloc (.cells #[.string x.Name, .int .i64 x.Universe, .int .i64 x.Address, .int .i64 x.Width] 34))) (((G.refl wo).alloc _).cell hd0)
        clear hy hA' hd0
        cases hl : ltF y x
        · have H := Lib.hid (vfs_rel HX.out HY.out hl)
          have hl2 : Op.bytesLess y.Name.toList x.Name.toList = false := hl
          clear hl
          go_wp2
          refine region_quiet_G (by kernel_rfl) (by kernel_rfl) ?_; (repeat (go_big_quiet_step (((go_at_call 32; exact quiet_G (C1.out _)))))); refine wpQuiet_nil ?_
          intro w2 hg2
          clear C1 ga0 ga1 ga2 ga3 gd0
          go_wp2
          go_ret
          exact ⟨ret_bool H.out.symm, (G0.out.alloc _).trans hg2⟩
        have HL := Lib.hid hl
        have hl2 : Op.bytesLess y.Name.toList x.Name.toList = true := hl
        clear hl
        go_wp2
        refine region_quiet_G (by kernel_rfl) (by kernel_rfl) ?_; (repeat (go_big_quiet_step (((go_at_call 32; exact quiet_G (C1.out _)))))); refine wpQuiet_nil ?_
        intro w2 hg2
        clear C1 ga0 ga1 ga2 ga3 gd0 hl2 hc0 hc1 hc2 hc3
        have G1 := Lib.hid ((G0.out.alloc _).trans hg2)
        have FX2 := Lib.hid (And.intro (hg2.cell FX.out.1) (And.intro (hg2.cell FX.out.2.1) (And.intro (hg2.cell FX.out.2.2.1) (hg2.cell FX.out.2.2.2))))
        clear hg2
        have HO := (okAt_next HX.out HY.out HV.out HL.out)
        have HAs := HA.out
        have HXs := HX.out
        clear HA HX HY HV HL hlt2 hk0
        go_wp2
        generalize decide ((j : Int) + 1 < (n : Int)) = dd
        obtain ⟨k, hkj⟩ : ∃ k, k = j + 1 := ⟨_, rfl⟩
        rw [← hkj] at HO HAs HXs hlt hk ⊢
        rw [show (j : Int) + 1 = (k : Int) by omega]
        have HJ := Lib.hid hkj
        have HO := Lib.hid HO
        have HA := Lib.hid HAs
        have HX := Lib.hid HXs
        clear hkj HAs HXs
        go_loopw [39] (fun i wr => ∃ (q1 : Nat), q1 ≤ k ∧ i = .int .i64 q1 ∧ (List.range q1).all (fun q => noSh L q (k)) = true ∧ G w2 wr) (fun i _ => k - (intOf i).toNat)
        case atStart => exact ⟨0, Nat.zero_le _, rfl, rfl, G.refl _⟩
        case round =>
          obtain ⟨i, hi, rfl, hs, hg3⟩ := hrel
          have HS := Lib.hid hs
          have G2 := Lib.hid hg3
          clear hs hg3
          by_cases hik : i < k
          · obtain ⟨bq, oq, g, hAq, hgx, hd0, hd1, hd2, hd3⟩ := (HR.out.G (G1.out.trans G2.out)).Fixture (k := i) (by rw [Hn.out]; omega)
            obtain ⟨rfl, rfl⟩ : b = bq ∧ o = oq := by simpa using hAq
            have HGX := Lib.hid hgx
            have MG := Lib.hid (Mid_of (vfsAt_valid HA.out hik hgx))
            clear hgx hAq
            have hik2 : (i : Int) < ((k : Nat) : Int) := by omega
            have hi0 : 0 ≤ (i : Int) := by omega
            have e0 := G2.out.cell FX2.out.1
            have e1 := G2.out.cell FX2.out.2.1
            have e2 := G2.out.cell FX2.out.2.2.1
            have e3 := G2.out.cell FX2.out.2.2.2
            replace e0 := ((G.refl wr).alloc (.cells #[.string g.Name, .int .i64 g.Universe, .int .i64 g.Address, .int .i64 g.Width] 34)).cell e0
            replace e1 := ((G.refl wr).alloc (.cells #[.string g.Name, .int .i64 g.Universe, .int .i64 g.Address, .int .i64 g.Width] 34)).cell e1
            replace e2 := ((G.refl wr).alloc (.cells #[.string g.Name, .int .i64 g.Universe, .int .i64 g.Address, .int .i64 g.Width] 34)).cell e2
            replace e3 := ((G.refl wr).alloc (.cells #[.string g.Name, .int .i64 g.Universe, .int .i64 g.Address, .int .i64 g.Width] 34)).cell e3
            have C2 := Lib.hid (fun (W : World) => sharedAddresses_any x g MX.out MG.out W)
            by_cases hsh : 0 < shF x g
            · have H := Lib.hid (vfs_share HX.out HGX.out hik (by rw [shF_comm]; exact hsh))
              go_wp2_with (go_at_call 35; refine (C2.out _).mono ?_; rintro e w4 ⟨rfl, g4⟩)
              go_ret
              exact ⟨ret_bool H.out.symm, ((G1.out.trans G2.out).alloc _).trans (by assumption)⟩
            · have HN := Lib.hid (show shF g x ≤ 0 by rw [shF_comm]; omega)
              go_wp2_with (go_at_call 35; refine (C2.out _).mono ?_; rintro e w4 ⟨rfl, g4⟩)
              go_roundw
              case rel => exact ⟨i + 1, by omega, by go_num, noSh_step HS.out HX.out HGX.out HN.out, (G2.out.alloc _).trans (by assumption)⟩
              case measure => simp [intOf]; omega
          · have hie : i = k := by omega
            have HE := HS.out
            rw [hie] at HE
            have HE := Lib.hid HE
            go_wp2
            go_roundw
            case rel => exact ⟨k + 1, by omega, by go_num, vfsAt_step HA.out HO.out HE.out, G1.out.trans G2.out⟩
            case measure => have hj := HJ.out; simp [intOf]; omega
    · have hkn : k = n := by omega
      have H := Lib.hid (show vfs L = true by unfold vfs; rw [Hn.out, ← hkn, HA.out]; simp; omega)
      go_wp2
      go_ret
      exact ⟨ret_bool H.out.symm, G0.out⟩

set_option maxRecDepth 20000 in
set_option maxHeartbeats 8000000 in
theorem l20Ok_any (A : Option Addr) (n c : Nat) (L : List SFixture) (w : World) (hr : Rd w A 4 cFixture L) (hn : L.length = n) (hb : n ≤ 4194304) (hwf : ∀ x ∈ L, WfFixture x) :
    Calls Try.prog 41 #[.slice A n c] w fun e w' => e = .returned (.bool (vfs L)) ∧ G w w' := by
  have Hn := Lib.hid hn
  have HR := Lib.hid hr
  have HW := Lib.hid hwf
  clear hr hn hwf
  go_enter Try.func41, Try.ntmps41
  go_wp2
  go_loopw [3] (fun i wr => ∃ (k : Nat), k ≤ n ∧ i = .int .i64 k ∧ (List.range k).all (vfsAt L) = true ∧ G w wr) (fun i _ => n - (intOf i).toNat)
  case atStart => exact ⟨0, Nat.zero_le _, rfl, rfl, G.refl _⟩
  case round =>
    obtain ⟨k, hk, rfl, ha, hg⟩ := hrel
    obtain ⟨wo, rfl⟩ : ∃ wo : World, wo = wr := ⟨_, rfl⟩
    have HA := Lib.hid ha
    have G0 := Lib.hid hg
    clear ha hg
    by_cases hlt : k < n
    · obtain ⟨b, o, x, rfl, hx, hc0, hc1, hc2, hc3⟩ := (HR.out.G G0.out).Fixture (k := k) (by rw [Hn.out]; exact hlt)
      have hwx := Lib.hid (HW.out x (List.mem_of_getElem? hx))
      have HX := Lib.hid hx
      clear hx
      have ga0 := cellR hc0
      have FX := Lib.hid (And.intro hc0 (And.intro hc1 (And.intro hc2 hc3)))
      have C1 := Lib.hid (fun (d : Nat) (os : Array Obj) => l20One_any x hwx.out b (o + k * 4) (Sort.grow (redrawn wo d) os) (cellR hc0 d os) (cellR hc1 d os) (cellR hc2 d os) (cellR hc3 d os))
      clear hc0 hc1 hc2 hc3
      have hlt2 : (k : Int) < (n : Int) := by omega
      have hk0 : 0 ≤ (k : Int) := by omega
      cases hv : vfB x
      · have H := Lib.hid (vfs_bad HX.out hv)
        rw [hv] at C1
        go_wp2
        refine region_quiet_G (by kernel_rfl) (by kernel_rfl) ?_; (repeat (go_big_quiet_step (((go_at_call 43; exact quiet_G (C1.out _ _)))))); refine wpQuiet_nil ?_
        intro w2 hg2
        clear C1 ga0
        go_wp2
        go_ret
        exact ⟨ret_bool H.out.symm, G0.out.trans hg2⟩
      have HV := Lib.hid hv
      have MX := Lib.hid (Mid_of hv)
      rw [hv] at C1
      clear hv
      cases k with
      | zero =>
        simp only [Nat.zero_mul, Nat.add_zero] at C1
        clear ga0
        go_wp2
        refine region_quiet_G (by kernel_rfl) (by kernel_rfl) ?_; (repeat (go_big_quiet_step (((go_at_call 43; exact quiet_G (C1.out _ _)))))); refine wpQuiet_nil ?_
        intro w2 hg2
        clear C1
        have G1 := Lib.hid (G0.out.trans hg2)
        clear hg2
        go_wp2
        go_rounds 1
        go_wp2
        go_roundw
        case rel => exact ⟨1, by omega, rfl, vfsAt_step HA.out (okAt_first HX.out HV.out) rfl, G1.out⟩
        case measure => simp [intOf]; omega
      | succ j =>
        obtain ⟨b', o', y, hA', hy, hd0, _, _, _⟩ := (HR.out.G G0.out).Fixture (k := j) (by rw [Hn.out]; omega)
        obtain ⟨rfl, rfl⟩ : b = b' ∧ o = o' := by simpa using hA'
        have HY := Lib.hid hy
        have gd0 := cellR hd0
        clear hy hA' hd0
        cases hl : ltF y x
        · have H := Lib.hid (vfs_rel HX.out HY.out hl)
          have hl2 : Op.bytesLess y.Name.toList x.Name.toList = false := hl
          clear hl
          go_wp2
          refine region_quiet_G (by kernel_rfl) (by kernel_rfl) ?_; (repeat (go_big_quiet_step (((go_at_call 43; exact quiet_G (C1.out _ _)))))); refine wpQuiet_nil ?_
          intro w2 hg2
          clear C1 ga0 gd0
          go_wp2
          go_ret
          exact ⟨ret_bool H.out.symm, G0.out.trans hg2⟩
        have HL := Lib.hid hl
        have hl2 : Op.bytesLess y.Name.toList x.Name.toList = true := hl
        clear hl
        go_wp2
        refine region_quiet_G (by kernel_rfl) (by kernel_rfl) ?_; (repeat (go_big_quiet_step (((go_at_call 43; exact quiet_G (C1.out _ _)))))); refine wpQuiet_nil ?_
        intro w2 hg2
        clear C1 ga0 gd0 hl2
        have G1 := Lib.hid (G0.out.trans hg2)
        have FX2 := Lib.hid (And.intro (hg2.cell FX.out.1) (And.intro (hg2.cell FX.out.2.1) (And.intro (hg2.cell FX.out.2.2.1) (hg2.cell FX.out.2.2.2))))
        clear hg2
        have HO := (okAt_next HX.out HY.out HV.out HL.out)
        have HAs := HA.out
        have HXs := HX.out
        clear HA HX HY HV HL hlt2 hk0
        go_wp2
        generalize decide ((j : Int) + 1 < (n : Int)) = dd
        obtain ⟨k, hkj⟩ : ∃ k, k = j + 1 := ⟨_, rfl⟩
        rw [← hkj] at HO HAs HXs hlt hk FX2 ⊢
        have HJ := Lib.hid hkj
        have HO := Lib.hid HO
        have HA := Lib.hid HAs
        have HX := Lib.hid HXs
        clear hkj HAs HXs
        go_loopw [4] (fun i wr => ∃ (q1 : Nat), q1 ≤ k ∧ i = .int .i64 q1 ∧ (List.range q1).all (fun q => noSh L q (k)) = true ∧ G w2 wr) (fun i _ => k - (intOf i).toNat)
        case atStart => exact ⟨0, Nat.zero_le _, rfl, rfl, G.refl _⟩
        case round =>
          obtain ⟨i, hi, rfl, hs, hg3⟩ := hrel
          have HS := Lib.hid hs
          have G2 := Lib.hid hg3
          clear hs hg3
          by_cases hik : i < k
          · obtain ⟨bq, oq, g, hAq, hgx, hd0, hd1, hd2, hd3⟩ := (HR.out.G (G1.out.trans G2.out)).Fixture (k := i) (by rw [Hn.out]; omega)
            obtain ⟨rfl, rfl⟩ : b = bq ∧ o = oq := by simpa using hAq
            have HGX := Lib.hid hgx
            have MG := Lib.hid (Mid_of (vfsAt_valid HA.out hik hgx))
            clear hgx hAq
            have hik2 : (i : Int) < ((k : Nat) : Int) := by omega
            have hi0 : 0 ≤ (i : Int) := by omega
            have C2 := Lib.hid (fun (d : Nat) (os : Array Obj) => l20Shared_any g x MG.out MX.out b (o + i * 4) b (o + (k) * 4) (Sort.grow (redrawn wr d) os) (cellR hd1 d os) (cellR hd2 d os) (cellR hd3 d os) (cellR (G2.out.cell FX2.out.2.1) d os) (cellR (G2.out.cell FX2.out.2.2.1) d os) (cellR (G2.out.cell FX2.out.2.2.2) d os))
            clear hd0 hd1 hd2 hd3
            by_cases hsh : 0 < shF g x
            · have H := Lib.hid (vfs_share HX.out HGX.out hik hsh)
              go_wp2
              refine region_quiet_G (by kernel_rfl) (by kernel_rfl) ?_; (repeat (go_big_quiet_step (((go_at_call 52; exact quiet_G (C2.out _ _)))))); refine wpQuiet_nil ?_
              intro w4 g4
              clear C2
              go_wp2
              go_ret
              exact ⟨ret_bool H.out.symm, (G1.out.trans G2.out).trans g4⟩
            · have HN := Lib.hid (show shF g x ≤ 0 by omega)
              go_wp2
              refine region_quiet_G (by kernel_rfl) (by kernel_rfl) ?_; (repeat (go_big_quiet_step (((go_at_call 52; exact quiet_G (C2.out _ _)))))); refine wpQuiet_nil ?_
              intro w4 g4
              have G4 := Lib.hid (G2.out.trans g4)
              clear C2 g4
              go_wp2
              go_roundw
              case rel => exact ⟨i + 1, by omega, by go_num, noSh_step HS.out HX.out HGX.out HN.out, G4.out⟩
              case measure => simp [intOf]; omega
          · have hie : i = k := by omega
            have HE := HS.out
            rw [hie] at HE
            have HE := Lib.hid HE
            go_wp2
            go_roundw
            case rel => exact ⟨k + 1, by omega, by go_num, vfsAt_step HA.out HO.out HE.out, G1.out.trans G2.out⟩
            case measure => have hj := HJ.out; simp [intOf]; omega
    · have hkn : k = n := by omega
      have H := Lib.hid (show vfs L = decide (n ≤ 16) by unfold vfs; rw [Hn.out, ← hkn, HA.out]; simp)
      go_wp2
      go_ret
      exact ⟨ret_bool (by rw [H.out]; simp; omega), G0.out⟩

theorem iValidFixtures_any (A : Option Addr) (n c : Nat) (L : List SFixture) (w : World) (hr : Rd w A 4 cFixture L) (hn : L.length = n) (hb : n ≤ 4194304) (hcap : n ≤ c) (hwf : ∀ x ∈ L, WfFixture x) :
    Calls Try.prog 25 #[.slice A n c] w fun e w' => e = .returned (.bool (vfs L)) ∧ G w w' := ValidFixtures_any A n c L w hr hn hb hcap hwf
set_option maxHeartbeats 400000 in
theorem sValidFixtures_any (A : Option Addr) (n c : Nat) (L : List SFixture) (w : World) (hr : Rd w A 4 cFixture L) (hn : L.length = n) (hb : n ≤ 4194304) (_hcap : n ≤ c) (hwf : ∀ x ∈ L, WfFixture x) :
    Calls Try.prog 15 #[.slice A n c] w fun e w' => e = .returned (.bool (vfs L)) ∧ G w w' := by
  go_enter Try.func15, Try.ntmps15
  go_wp2_with (go_at_call 41; refine (l20Ok_any A n c L _ hr hn hb hwf).mono ?_; rintro e w1 ⟨rfl, g1⟩)
  go_ret
  exact ⟨rfl, by assumption⟩
end Go.Proofs.Ytckenipmebeopaa
