/-
  Walks: AddFixture, by both texts.
-/
import Derived.Test.YtckenipmebeopaaDropFixture
import Derived.Test.YtckenipmebeopaaInsertFixture
import Derived.Deep.RegionHeld3
import Derived.Deep.DrawnRows
namespace Go.Proofs.Ytckenipmebeopaa
open Go.RowKit
attribute [local go_sem ↓] Go.wp_at_zero Go.wp_at_succ

def befF (f x : SFixture) : Bool := ltS x.Name f.Name
def posF (L : List SFixture) (f : SFixture) : Nat := L.findIdx (fun x => !befF f x)
theorem posF_eq {L : List SFixture} {f : SFixture} {k : Nat} (hk : k ≤ L.length) (ha : ∀ j x, j < k → L[j]? = some x → befF f x = true) (hx : ∀ x, L[k]? = some x → befF f x = false) : posF L f = k := by
  unfold posF
  rcases Nat.lt_or_ge k L.length with hlt | hge
  · rw [List.findIdx_eq hlt]
    refine ⟨by simp [hx _ (List.getElem?_eq_getElem hlt)], fun j hj => ?_⟩
    simp [ha j _ hj (List.getElem?_eq_getElem (by omega))]
  · have : k = L.length := by omega
    rw [this, List.findIdx_eq_length]
    intro x hm
    obtain ⟨j, hj⟩ := List.mem_iff_getElem?.1 hm
    simp [ha j x (by have := (List.getElem?_eq_some_iff.1 hj).1; omega) hj]
theorem of_all {p : SFixture → Bool} {L : List SFixture} {k : Nat} (h : (L.take k).all p = true) : ∀ j x, j < k → L[j]? = some x → p x = true :=
  fun j x hj hx => List.all_eq_true.1 h x (List.mem_iff_getElem?.2 ⟨j, by rw [List.getElem?_take, if_pos hj]; exact hx⟩)
def sameF (f x : SFixture) : Bool := x.Name.toList == f.Name.toList
def hitF2 (L : List SFixture) (f : SFixture) : Bool := match L[posF L f]? with
  | some x => sameF f x
  | none => false
def addFL (L : List SFixture) (f : SFixture) : List SFixture := L.take (posF L f) ++ f :: L.drop (posF L f)
def addFR (L : List SFixture) (f : SFixture) : List SFixture × Int := if vfs L = false then ([], 1) else if vfB f = false then ([], 1) else
  if hitF2 L f = true then ([], 4) else if L.any (hitSh f) = true then ([], 6) else if L.length = 16 then ([], 5) else (addFL L f, 0)
theorem addFL_len (L : List SFixture) (f : SFixture) : (addFL L f).length = L.length + 1 := by
  unfold addFL
  rw [List.length_append, List.length_cons, List.length_take, List.length_drop]
  omega
theorem addFR_len (L : List SFixture) (f : SFixture) : (addFR L f).1.length ≤ 512 := by
  unfold addFR
  split
  · simp
  · rename_i h
    have h2 := vfs_len (L := L) (by simpa using h)
    repeat' split
    all_goals first
      | (simp only [addFL_len]; omega)
      | simp
theorem same_not_bef {f x : SFixture} (h : sameF f x = true) : befF f x = false := by
  unfold sameF at h
  unfold befF ltS
  rw [beq_iff_eq] at h
  rw [h, bl_irrefl]

set_option maxHeartbeats 1000000 in
theorem addClosure_any (f x : SFixture) (hf : Mid f) (hx : Mid x) (b : Nat) (w : World) (hc0 : w.cell? ⟨b, 0, none⟩ = some (.string f.Name)) (hc1 : w.cell? ⟨b, 1, none⟩ = some (.int .i64 f.Universe)) (hc2 : w.cell? ⟨b, 2, none⟩ = some (.int .i64 f.Address)) (hc3 : w.cell? ⟨b, 3, none⟩ = some (.int .i64 f.Width)) :
    Calls Try.prog 34 #[.agg #[.string x.Name, .int .i64 x.Universe, .int .i64 x.Address, .int .i64 x.Width], .pointer (some ⟨b, 0, none⟩)] w fun e w' => e = .returned (.bool (hitSh f x)) ∧ G w w' := by
  have d0 := ((G.refl w).alloc (.cells #[.string x.Name, .int .i64 x.Universe, .int .i64 x.Address, .int .i64 x.Width] 34)).cell hc0
  have d1 := ((G.refl w).alloc (.cells #[.string x.Name, .int .i64 x.Universe, .int .i64 x.Address, .int .i64 x.Width] 34)).cell hc1
  have d2 := ((G.refl w).alloc (.cells #[.string x.Name, .int .i64 x.Universe, .int .i64 x.Address, .int .i64 x.Width] 34)).cell hc2
  have d3 := ((G.refl w).alloc (.cells #[.string x.Name, .int .i64 x.Universe, .int .i64 x.Address, .int .i64 x.Width] 34)).cell hc3
  clear hc0 hc1 hc2 hc3
  go_enter Try.func34, Try.ntmps34
  go_wp2_with (go_at_call 35; refine (sharedAddresses_any f x hf hx _).mono ?_; rintro e w1 ⟨rfl, g1⟩; have G1 := Lib.hid g1; clear g1)
  go_ret
  exact ⟨rfl, ((G.refl _).alloc _).trans G1.out⟩

set_option maxRecDepth 20000 in
set_option maxHeartbeats 2000000 in
theorem addIx_any (f : SFixture) (hf : Mid f) (b : Nat) (A : Option Addr) (n c : Nat) (L : List SFixture) (w : World) (hr : Rd w A 4 cFixture L) (hn : L.length = n) (hb : n ≤ 4194304) (hm : ∀ x ∈ L, Mid x) (hc0 : w.cell? ⟨b, 0, none⟩ = some (.string f.Name)) (hc1 : w.cell? ⟨b, 1, none⟩ = some (.int .i64 f.Universe)) (hc2 : w.cell? ⟨b, 2, none⟩ = some (.int .i64 f.Address)) (hc3 : w.cell? ⟨b, 3, none⟩ = some (.int .i64 f.Width)) :
    Calls Try.prog 38 #[.slice A n c, .func (.func 34) #[] #[.pointer (some ⟨b, 0, none⟩)]] w fun e w' => e = .returned (.int .i64 (idxOf (hitSh f) L)) ∧ G w w' := by
  have Hn := Lib.hid hn
  have HR := Lib.hid hr
  clear hr hn
  have C0 := Lib.hid hc0
  have C1 := Lib.hid hc1
  have C2 := Lib.hid hc2
  have C3 := Lib.hid hc3
  have HM := Lib.hid hm
  clear hc0 hc1 hc2 hc3 hm
  go_enter Try.func38, Try.ntmps38
  go_wp2
  go_loopw [8] (fun i wr => ∃ k : Nat, k ≤ n ∧ i = .int .i64 k ∧ (L.take k).all (fun y => !(hitSh f) y) = true ∧ G w wr) (fun i _ => n - (intOf i).toNat)
  case atStart => exact ⟨0, Nat.zero_le _, rfl, by simp, G.refl _⟩
  case round =>
    obtain ⟨k, hk, rfl, ha, hg⟩ := hrel
    have HA := Lib.hid ha
    have G0 := Lib.hid hg
    clear ha hg
    by_cases hlt : k < n
    · obtain ⟨b1, o, x, rfl, hx, hc0, hc1, hc2, hc3⟩ := (HR.out.G G0.out).Fixture (k := k) (by rw [Hn.out]; exact hlt)
      have HX := Lib.hid hx
      have K := Lib.hid (addClosure_any f x hf (HM.out x (List.mem_of_getElem? hx)) b wr (G0.out.cell C0.out) (G0.out.cell C1.out) (G0.out.cell C2.out) (G0.out.cell C3.out))
      clear hx
      cases hv : (hitSh f) x
      · rw [hv] at K
        have H := Lib.hid (all_snoc (p := fun y => !(hitSh f) y) HX.out HA.out (by simp [hv]))
        clear hv
        go_wp2_with (go_at_call 34; refine K.out.mono ?_; rintro e w1 ⟨rfl, g1⟩; have G1 := Lib.hid (G0.out.trans g1); clear g1)
        go_roundw
        case rel => exact ⟨k + 1, by omega, by go_num, H.out, G1.out⟩
        case measure => simp [intOf]; omega
      · rw [hv] at K
        have H := Lib.hid (idxOf_hit HX.out HA.out hv)
        clear hv
        go_wp2_with (go_at_call 34; refine K.out.mono ?_; rintro e w1 ⟨rfl, g1⟩; have G1 := Lib.hid (G0.out.trans g1); clear g1)
        go_ret
        exact ⟨ret_int H.out.symm, G1.out⟩
    · have H := Lib.hid (idxOf_none (p := (hitSh f)) (all_take_all (by rw [Hn.out]; omega) HA.out))
      go_wp2
      go_ret
      exact ⟨ret_int H.out.symm, G0.out⟩

set_option maxRecDepth 20000 in
set_option maxHeartbeats 4000000 in
theorem iAddFixture_any (A : Option Addr) (n c : Nat) (L : List SFixture) (f : SFixture) (w : World) (hr : Rd w A 4 cFixture L) (hn : L.length = n) (hb : n ≤ 4194304) (hcap : n ≤ c) (hwf : ∀ x ∈ L, WfFixture x) (hf : WfFixture f) :
    Calls Try.prog 12 #[.slice A n c, .agg #[.string f.Name, .int .i64 f.Universe, .int .i64 f.Address, .int .i64 f.Width]] w (Res w 34 4 cFixture (addFR L f)) := by
  have K := Lib.hid (ValidFixtures_any A n c L (w.alloc (.cells #[.string f.Name, .int .i64 f.Universe, .int .i64 f.Address, .int .i64 f.Width] 34)) (hr.G ((G.refl w).alloc _)) hn hb hcap hwf)
  have C0 := Lib.hid (show (w.alloc (.cells #[.string f.Name, .int .i64 f.Universe, .int .i64 f.Address, .int .i64 f.Width] 34)).cell? ⟨w.heap.size, 0, none⟩ = some (.string f.Name) from World.cell?_alloc_at _ _ _ _ rfl)
  have C1 := Lib.hid (show (w.alloc (.cells #[.string f.Name, .int .i64 f.Universe, .int .i64 f.Address, .int .i64 f.Width] 34)).cell? ⟨w.heap.size, 1, none⟩ = some (.int .i64 f.Universe) from World.cell?_alloc_at _ _ _ _ rfl)
  have C2 := Lib.hid (show (w.alloc (.cells #[.string f.Name, .int .i64 f.Universe, .int .i64 f.Address, .int .i64 f.Width] 34)).cell? ⟨w.heap.size, 2, none⟩ = some (.int .i64 f.Address) from World.cell?_alloc_at _ _ _ _ rfl)
  have C3 := Lib.hid (show (w.alloc (.cells #[.string f.Name, .int .i64 f.Universe, .int .i64 f.Address, .int .i64 f.Width] 34)).cell? ⟨w.heap.size, 3, none⟩ = some (.int .i64 f.Width) from World.cell?_alloc_at _ _ _ _ rfl)
  have K2 := Lib.hid (fun W : World => ValidFixture_any f W hf)
  have Hn := Lib.hid hn
  have HR := Lib.hid hr
  clear hr hn hwf hf
  cases hv : vfs L
  · have H := Lib.hid (show addFR L f = ([], 1) by unfold addFR; rw [if_pos hv])
    rw [hv] at K
    clear hv
    go_enter Try.func12, Try.ntmps12
    go_wp2_with (go_at_call 25; refine K.out.mono ?_; rintro e w1 ⟨rfl, g1⟩; have G1 := Lib.hid (((G.refl w).alloc _).trans g1); have d0 := g1.cell C0.out; have d1 := g1.cell C1.out; have d2 := g1.cell C2.out; have d3 := g1.cell C3.out; clear g1)
    go_ret2
    exact res_nil H.out G1.out
  rw [hv] at K
  have HV := Lib.hid hv
  have HF := Lib.hid (show addFR L f = if vfB f = false then ([], 1) else if hitF2 L f = true then ([], 4) else if L.any (hitSh f) = true then ([], 6) else if n = 16 then ([], 5) else (addFL L f, 0) by unfold addFR; rw [if_neg (by rw [hv]; simp), Hn.out])
  clear hv
  cases hvf : vfB f
  · have H := Lib.hid (show addFR L f = ([], 1) by rw [HF.out, if_pos hvf])
    rw [hvf] at K2
    clear hvf
    go_enter Try.func12, Try.ntmps12
    go_wp2_with (first | (go_at_call 25; refine K.out.mono ?_; rintro e w1 ⟨rfl, g1⟩; have G1 := Lib.hid (((G.refl w).alloc _).trans g1); have d0 := g1.cell C0.out; have d1 := g1.cell C1.out; have d2 := g1.cell C2.out; have d3 := g1.cell C3.out; clear g1) | (go_at_call 32; refine (K2.out _).mono ?_; rintro e w2 ⟨rfl, g2⟩; have G2 := Lib.hid (G1.out.trans g2); replace d0 := g2.cell d0; replace d1 := g2.cell d1; replace d2 := g2.cell d2; replace d3 := g2.cell d3; clear g2))
    go_ret2
    exact res_nil H.out G2.out
  rw [hvf] at K2
  have HE := Lib.hid (show addFR L f = if hitF2 L f = true then ([], 4) else if L.any (hitSh f) = true then ([], 6) else if n = 16 then ([], 5) else (addFL L f, 0) by rw [HF.out, if_neg (by rw [hvf]; simp)])
  have MF := Lib.hid (Mid_of hvf)
  have HM := Lib.hid (show ∀ x ∈ L, Mid x from fun x hx => by obtain ⟨i, hi⟩ := List.mem_iff_getElem?.1 hx; exact Mid_of (vfs_at HV.out hi))
  have hn16 := vfs_len HV.out
  rw [Hn.out] at hn16
  clear hvf
  go_enter Try.func12, Try.ntmps12
  go_wp2_with (first | (go_at_call 25; refine K.out.mono ?_; rintro e w1 ⟨rfl, g1⟩; have G1 := Lib.hid (((G.refl w).alloc _).trans g1); have d0 := g1.cell C0.out; have d1 := g1.cell C1.out; have d2 := g1.cell C2.out; have d3 := g1.cell C3.out; clear g1) | (go_at_call 32; refine (K2.out _).mono ?_; rintro e w2 ⟨rfl, g2⟩; have G2 := Lib.hid (G1.out.trans g2); replace d0 := g2.cell d0; replace d1 := g2.cell d1; replace d2 := g2.cell d2; replace d3 := g2.cell d3; clear g2))
  clear K K2 HF
  have D0 := Lib.hid d0
  have D1 := Lib.hid d1
  have D2 := Lib.hid d2
  have D3 := Lib.hid d3
  clear d0 d1 d2 d3
  have KX := Lib.hid (fun (W : World) (g : G w2 W) => addIx_any f MF.out w.heap.size A n c L W (HR.out.G (G2.out.trans g)) Hn.out hb HM.out (g.cell D0.out) (g.cell D1.out) (g.cell D2.out) (g.cell D3.out))
  have KC := Lib.hid (fun (W : World) (g : G w2 W) => cloneFixture_any A n c L W (HR.out.G (G2.out.trans g)) Hn.out hb)
  have s2 := G2.out.size
  go_loopw [6] (fun i wr => ∃ (k : Nat), k ≤ n ∧ i = .int .i64 k ∧ Hid ((L.take k).all (befF f) = true) ∧ Hid (G w2 wr)) (fun i _ => n - (intOf i).toNat)
  case atStart => exact ⟨0, Nat.zero_le _, rfl, Lib.hid rfl, Lib.hid (G.refl _)⟩
  case round =>
    obtain ⟨k, hk, rfl, HA, G3⟩ := hrel
    have hk0 : 0 ≤ (k : Int) := by omega
    have gf0 := cellR (G3.out.cell D0.out)
    by_cases hlt : k < n
    · obtain ⟨b, o, x, rfl, hx, hc0, hc1, hc2, hc3⟩ := (HR.out.G (G2.out.trans G3.out)).Fixture (k := k) (by rw [Hn.out]; exact hlt)
      have HX := Lib.hid hx
      have gx0 := cellR hc0
      have HC0 := Lib.hid hc0
      clear hx hc0 hc1 hc2 hc3
      have hlt2 : (k : Int) < (n : Int) := by omega
      cases hbf : befF f x
      · have hd : Op.bytesLess x.Name.toList f.Name.toList = false := hbf
        have HP := Lib.hid (posF_eq (f := f) (by rw [Hn.out]; exact hk) (of_all HA.out) (fun y hy => by rw [HX.out] at hy; cases hy; exact hbf))
        clear hbf
        cases hsm : sameF f x
        · have hd1 : (x.Name.toList == f.Name.toList) = false := hsm
          have HH := Lib.hid (show hitF2 L f = false by unfold hitF2; rw [HP.out, HX.out]; exact hsm)
          clear hsm
          go_wp2
          refine region_quiet_G (by kernel_rfl) (by kernel_rfl) ?_; (repeat (go_big_quiet_step ((fail)))); refine wpQuiet_nil ?_
          intro w3 g3
          clear gx0 gf0
          have gx0 := cellR (g3.cell HC0.out)
          have gf0 := cellR (g3.cell (G3.out.cell D0.out))
          have G3b := Lib.hid (G3.out.trans g3)
          clear g3
          go_wp2
          refine region_quiet_G (by kernel_rfl) (by kernel_rfl) ?_; (repeat (go_big_quiet_step ((fail)))); refine wpQuiet_nil ?_
          intro w4 g4
          have G4 := Lib.hid (G3b.out.trans g4)
          clear gx0 gf0 g4
          rcases idxOf_cases (hitSh f) L with ⟨hi, hany⟩ | ⟨j, y, hi, hy, hp, hany⟩
          · rw [hi] at KX
            by_cases h16 : n = 16
            · have H1 := Lib.hid (show addFR L f = ([], 5) by rw [HE.out, if_neg (by rw [HH.out]; simp), if_neg (by rw [hany]; simp), if_pos h16])
              have hd2 : ((n : Int) == 16) = true := by simp [h16]
              clear hi hany h16
              go_wp2_with (first | (go_at_call 38; refine (KX.out _ G4.out).mono ?_; rintro e w5 ⟨rfl, g5⟩; have G5 := Lib.hid (G4.out.trans g5); clear g5) | go_in)
              go_ret2
              exact res_nil H1.out (G2.out.trans G5.out)
            · have H1 := Lib.hid (show addFR L f = (L.take k ++ f :: L.drop k, 0) by rw [HE.out, if_neg (by rw [HH.out]; simp), if_neg (by rw [hany]; simp), if_neg h16, addFL, HP.out])
              have hd2 : ((n : Int) == 16) = false := by simp; omega
              clear hi hany
              go_wp2_with (first | (go_at_call 38; refine (KX.out _ G4.out).mono ?_; rintro e w5 ⟨rfl, g5⟩; have G5 := Lib.hid (G4.out.trans g5); have e0 := G5.out.cell D0.out; have e1 := G5.out.cell D1.out; have e2 := G5.out.cell D2.out; have e3 := G5.out.cell D3.out; clear g5) | go_in)
              have s5 := G5.out.size
              have KIN := Lib.hid (fun (W : World) (v6 : Value) (o : W.ownsRow w2.heap.size 34 4 v6 n (L.flatMap cFixture)) (hs : w2.heap.size ≤ W.heap.size) => insertFixture_any w2.heap.size n W.heap.size v6 L f k (W.alloc (.cells #[.string f.Name, .int .i64 f.Universe, .int .i64 f.Address, .int .i64 f.Width] 34)) (o.alloc _) Hn.out (by omega) (by rw [World.size_alloc]; omega) (by omega) (heap_alloc_new W _) (fun q hq => by have := (o.lt q hq).2; omega))
              have KIN2 := Lib.hid (fun (W : World) (v6 : Value) (o : W.ownsRow w2.heap.size 34 4 v6 n (L.flatMap cFixture)) (hs : w2.heap.size ≤ W.heap.size) (vb : Nat) (hvb : W.heap[vb]? = some (.cells (cFixture f).toArray 34 (0, 0))) (hne : ∀ q, v6.ownBlock = some q → vb ≠ q) => insertFixture_any w2.heap.size n vb v6 L f k W o Hn.out (by omega) hs (by omega) hvb hne)
              go_region_held3 (fun w' => w'.cell? ⟨w.heap.size, 0, none⟩ = some (.string f.Name) ∧ w'.cell? ⟨w.heap.size, 1, none⟩ = some (.int .i64 f.Universe) ∧ w'.cell? ⟨w.heap.size, 2, none⟩ = some (.int .i64 f.Address) ∧ w'.cell? ⟨w.heap.size, 3, none⟩ = some (.int .i64 f.Width)) (first | go_keep | exact ⟨q0, q1, q2, q3⟩) (first | (go_at_call 37; refine (KC.out _ ?hq).mono ?_; (case hq => (first | exact G5.out.drew | exact G5.out.drew.alloc _)); rintro e w6 ⟨v6, rfl, o6, g6⟩; have s6 := g6.size; have q0 := g6.cell (p := ⟨w.heap.size, 0, none⟩) (by first | exact e0 | exact (G5.out.drew.alloc _).cell D0.out); have q1 := g6.cell (p := ⟨w.heap.size, 1, none⟩) (by first | exact e1 | exact (G5.out.drew.alloc _).cell D1.out); have q2 := g6.cell (p := ⟨w.heap.size, 2, none⟩) (by first | exact e2 | exact (G5.out.drew.alloc _).cell D2.out); have q3 := g6.cell (p := ⟨w.heap.size, 3, none⟩) (by first | exact e3 | exact (G5.out.drew.alloc _).cell D3.out); have B6 := Lib.hid (own_block_of o6); have o6b := own_low' o6 (base' := w2.heap.size) (by simp; omega); rw [Hn.out] at o6b; have O6 := Lib.hid o6b; have G6 := Lib.hid (show G w2 w6 by first | exact G5.out.drew.trans g6 | exact (G5.out.drew.alloc _).trans g6); have K6 := Lib.hid g6; clear o6 o6b g6) | (go_at_call 36; (first | ((with_reducible refine (KIN.out _ _ O6.out ?hs).mono ?_); (case hs => (have := G6.out.size; omega))) | ((with_reducible refine (KIN2.out _ _ O6.out ?hs w5.heap.size ?hv ?hw).mono ?_); (case hs => (have := G6.out.size; omega)); (case hv => (rw [K6.out.heap (by simp)]; exact heap_alloc_new w5 (.cells #[.string f.Name, .int .i64 f.Universe, .int .i64 f.Address, .int .i64 f.Width] 34))); (case hw => exact (fun q hq => by have := B6.out q hq; simp at this; omega)))); rintro e w7 ⟨v7, rfl, o7, g7⟩; have G7 := Lib.hid (show G w2 w7 by first | exact g7 w2 (Nat.le_refl _) (G6.out.alloc _) | exact g7 w2 (Nat.le_refl _) G6.out); have O7 := Lib.hid (own_low' o7 s2); clear o7 g7; have q0 := G7.out.cell D0.out; have q1 := G7.out.cell D1.out; have q2 := G7.out.cell D2.out; have q3 := G7.out.cell D3.out))
              all_goals
                go_wp2
                go_ret2
                exact res_own H1.out (by rw [List.length_append, List.length_cons, List.length_take, List.length_drop, Hn.out]; omega) O7.out (G2.out.trans G7.out)
          · rw [hi] at KX
            have H1 := Lib.hid (show addFR L f = ([], 6) by rw [HE.out, if_neg (by rw [HH.out]; simp), if_pos hany])
            clear hi hany hy hp
            go_wp2_with (first | (go_at_call 38; refine (KX.out _ G4.out).mono ?_; rintro e w5 ⟨rfl, g5⟩; have G5 := Lib.hid (G4.out.trans g5); clear g5) | go_in)
            go_ret2
            exact res_nil H1.out (G2.out.trans G5.out)
        · have hd1 : (x.Name.toList == f.Name.toList) = true := hsm
          have H1 := Lib.hid (show addFR L f = ([], 4) by rw [HE.out, if_pos (by unfold hitF2; rw [HP.out, HX.out]; exact hsm)])
          clear hsm
          go_wp2
          refine region_quiet_G (by kernel_rfl) (by kernel_rfl) ?_; (repeat (go_big_quiet_step ((fail)))); refine wpQuiet_nil ?_
          intro w3 g3
          clear gx0 gf0
          have gx0 := cellR (g3.cell HC0.out)
          have gf0 := cellR (g3.cell (G3.out.cell D0.out))
          have G3b := Lib.hid (G3.out.trans g3)
          clear g3
          go_wp2
          refine region_quiet_G (by kernel_rfl) (by kernel_rfl) ?_; (repeat (go_big_quiet_step ((fail)))); refine wpQuiet_nil ?_
          intro w4 g4
          have G4 := Lib.hid (G3b.out.trans g4)
          clear gx0 gf0 g4
          go_wp2
          go_ret2
          exact res_nil H1.out (G2.out.trans G4.out)
      · have hd : Op.bytesLess x.Name.toList f.Name.toList = true := hbf
        have HA2 := Lib.hid (all_snoc HX.out HA.out (p := befF f) hbf)
        clear hbf
        go_wp2
        refine region_quiet_G (by kernel_rfl) (by kernel_rfl) ?_; (repeat (go_big_quiet_step ((fail)))); refine wpQuiet_nil ?_
        intro w3 g3
        have G4 := Lib.hid (G3.out.trans g3)
        clear gx0 gf0 g3
        go_wp2
        go_roundw
        case rel => exact ⟨k + 1, by omega, by go_num, HA2, G4⟩
        case measure => simp [intOf]; omega
    · have hkn : n = k := by omega
      subst hkn
      have HP := Lib.hid (posF_eq (f := f) (k := n) (by rw [Hn.out]; exact hk) (of_all HA.out) (fun y hy => by have := (List.getElem?_eq_some_iff.1 hy).1; rw [Hn.out] at this; omega))
      have HH := Lib.hid (show hitF2 L f = false by unfold hitF2; rw [HP.out, List.getElem?_eq_none (by rw [Hn.out]; omega)])
      have hd0 : decide ((n : Int) < (n : Int)) = false := by simp
      go_wp2
      refine region_quiet_G (by kernel_rfl) (by kernel_rfl) ?_; (repeat (go_big_quiet_step ((fail)))); refine wpQuiet_nil ?_
      intro w3 g3
      clear gf0
      have gf0 := cellR (g3.cell (G3.out.cell D0.out))
      have G3b := Lib.hid (G3.out.trans g3)
      clear g3
      go_wp2
      refine region_quiet_G (by kernel_rfl) (by kernel_rfl) ?_; (repeat (go_big_quiet_step ((fail)))); refine wpQuiet_nil ?_
      intro w4 g4
      have G4 := Lib.hid (G3b.out.trans g4)
      clear gf0 g4
      rcases idxOf_cases (hitSh f) L with ⟨hi, hany⟩ | ⟨j, y, hi, hy, hp, hany⟩
      · rw [hi] at KX
        by_cases h16 : n = 16
        · have H1 := Lib.hid (show addFR L f = ([], 5) by rw [HE.out, if_neg (by rw [HH.out]; simp), if_neg (by rw [hany]; simp), if_pos h16])
          have hd2 : ((n : Int) == 16) = true := by simp [h16]
          clear hi hany h16
          go_wp2_with (first | (go_at_call 38; refine (KX.out _ G4.out).mono ?_; rintro e w5 ⟨rfl, g5⟩; have G5 := Lib.hid (G4.out.trans g5); clear g5) | go_in)
          go_ret2
          exact res_nil H1.out (G2.out.trans G5.out)
        · have H1 := Lib.hid (show addFR L f = (L.take n ++ f :: L.drop n, 0) by rw [HE.out, if_neg (by rw [HH.out]; simp), if_neg (by rw [hany]; simp), if_neg h16, addFL, HP.out])
          have hd2 : ((n : Int) == 16) = false := by simp; omega
          clear hi hany
          go_wp2_with (first | (go_at_call 38; refine (KX.out _ G4.out).mono ?_; rintro e w5 ⟨rfl, g5⟩; have G5 := Lib.hid (G4.out.trans g5); have e0 := G5.out.cell D0.out; have e1 := G5.out.cell D1.out; have e2 := G5.out.cell D2.out; have e3 := G5.out.cell D3.out; clear g5) | go_in)
          have s5 := G5.out.size
          have KIN := Lib.hid (fun (W : World) (v6 : Value) (o : W.ownsRow w2.heap.size 34 4 v6 n (L.flatMap cFixture)) (hs : w2.heap.size ≤ W.heap.size) => insertFixture_any w2.heap.size n W.heap.size v6 L f n (W.alloc (.cells #[.string f.Name, .int .i64 f.Universe, .int .i64 f.Address, .int .i64 f.Width] 34)) (o.alloc _) Hn.out (by omega) (by rw [World.size_alloc]; omega) (by omega) (heap_alloc_new W _) (fun q hq => by have := (o.lt q hq).2; omega))
          have KIN2 := Lib.hid (fun (W : World) (v6 : Value) (o : W.ownsRow w2.heap.size 34 4 v6 n (L.flatMap cFixture)) (hs : w2.heap.size ≤ W.heap.size) (vb : Nat) (hvb : W.heap[vb]? = some (.cells (cFixture f).toArray 34 (0, 0))) (hne : ∀ q, v6.ownBlock = some q → vb ≠ q) => insertFixture_any w2.heap.size n vb v6 L f n W o Hn.out (by omega) hs (by omega) hvb hne)
          go_region_held3 (fun w' => w'.cell? ⟨w.heap.size, 0, none⟩ = some (.string f.Name) ∧ w'.cell? ⟨w.heap.size, 1, none⟩ = some (.int .i64 f.Universe) ∧ w'.cell? ⟨w.heap.size, 2, none⟩ = some (.int .i64 f.Address) ∧ w'.cell? ⟨w.heap.size, 3, none⟩ = some (.int .i64 f.Width)) (first | go_keep | exact ⟨q0, q1, q2, q3⟩) (first | (go_at_call 37; refine (KC.out _ ?hq).mono ?_; (case hq => (first | exact G5.out.drew | exact G5.out.drew.alloc _)); rintro e w6 ⟨v6, rfl, o6, g6⟩; have s6 := g6.size; have q0 := g6.cell (p := ⟨w.heap.size, 0, none⟩) (by first | exact e0 | exact (G5.out.drew.alloc _).cell D0.out); have q1 := g6.cell (p := ⟨w.heap.size, 1, none⟩) (by first | exact e1 | exact (G5.out.drew.alloc _).cell D1.out); have q2 := g6.cell (p := ⟨w.heap.size, 2, none⟩) (by first | exact e2 | exact (G5.out.drew.alloc _).cell D2.out); have q3 := g6.cell (p := ⟨w.heap.size, 3, none⟩) (by first | exact e3 | exact (G5.out.drew.alloc _).cell D3.out); have B6 := Lib.hid (own_block_of o6); have o6b := own_low' o6 (base' := w2.heap.size) (by simp; omega); rw [Hn.out] at o6b; have O6 := Lib.hid o6b; have G6 := Lib.hid (show G w2 w6 by first | exact G5.out.drew.trans g6 | exact (G5.out.drew.alloc _).trans g6); have K6 := Lib.hid g6; clear o6 o6b g6) | (go_at_call 36; (first | ((with_reducible refine (KIN.out _ _ O6.out ?hs).mono ?_); (case hs => (have := G6.out.size; omega))) | ((with_reducible refine (KIN2.out _ _ O6.out ?hs w5.heap.size ?hv ?hw).mono ?_); (case hs => (have := G6.out.size; omega)); (case hv => (rw [K6.out.heap (by simp)]; exact heap_alloc_new w5 (.cells #[.string f.Name, .int .i64 f.Universe, .int .i64 f.Address, .int .i64 f.Width] 34))); (case hw => exact (fun q hq => by have := B6.out q hq; simp at this; omega)))); rintro e w7 ⟨v7, rfl, o7, g7⟩; have G7 := Lib.hid (show G w2 w7 by first | exact g7 w2 (Nat.le_refl _) (G6.out.alloc _) | exact g7 w2 (Nat.le_refl _) G6.out); have O7 := Lib.hid (own_low' o7 s2); clear o7 g7; have q0 := G7.out.cell D0.out; have q1 := G7.out.cell D1.out; have q2 := G7.out.cell D2.out; have q3 := G7.out.cell D3.out))
          all_goals
            go_wp2
            go_ret2
            exact res_own H1.out (by rw [List.length_append, List.length_cons, List.length_take, List.length_drop, Hn.out]; omega) O7.out (G2.out.trans G7.out)
      · rw [hi] at KX
        have H1 := Lib.hid (show addFR L f = ([], 6) by rw [HE.out, if_neg (by rw [HH.out]; simp), if_pos hany])
        clear hi hany hy hp
        go_wp2_with (first | (go_at_call 38; refine (KX.out _ G4.out).mono ?_; rintro e w5 ⟨rfl, g5⟩; have G5 := Lib.hid (G4.out.trans g5); clear g5) | go_in)
        go_ret2
        exact res_nil H1.out (G2.out.trans G5.out)

theorem any_snoc2 {p : SFixture → Bool} {L : List SFixture} {k : Nat} {x : SFixture} (hx : L[k]? = some x) : (L.take (k + 1)).any p = ((L.take k).any p || p x) := by rw [take_snoc hx, List.any_append]; simp
theorem bef_below {L : List SFixture} (hv : vfs L = true) {f x : SFixture} {k : Nat} (hx : L[k]? = some x) (hs : sameF f x = true ∨ befF f x = true) : ∀ j y, j < k → L[j]? = some y → befF f y = true := by
  intro j y hj hy
  have h1 := vfs_lt hv hy hx hj
  unfold ltF ltS at h1
  unfold befF ltS
  rcases hs with h | h
  · unfold sameF at h
    rw [beq_iff_eq] at h
    rwa [← h]
  · exact bl_trans _ _ _ h1 h

set_option maxRecDepth 20000 in
set_option maxHeartbeats 4000000 in
theorem sAddFixture_any (b n c : Nat) (L : List SFixture) (f : SFixture) (w : World) (hr : Rd w (some ⟨b, 0, none⟩) 4 cFixture L) (hn : L.length = n) (hb : n ≤ 4194304) (hcap : n ≤ c) (hwf : ∀ x ∈ L, WfFixture x) (hf : WfFixture f) :
    Calls Try.prog 57 #[.slice (some ⟨b, 0, none⟩) n c, .agg #[.string f.Name, .int .i64 f.Universe, .int .i64 f.Address, .int .i64 f.Width]] w (Res w 34 4 cFixture (addFR L f)) := by
  obtain ⟨i0, hi, hz0, hz1, hz2⟩ := info_parts infoFixture
  have HI := Lib.hid (And.intro hi (And.intro hz0 (And.intro hz1 hz2)))
  clear hi hz0 hz1 hz2
  have K := Lib.hid (l20Ok_any (some ⟨b, 0, none⟩) n c L (w.alloc (.cells #[.string f.Name, .int .i64 f.Universe, .int .i64 f.Address, .int .i64 f.Width] 34)) (hr.G ((G.refl w).alloc _)) hn hb hwf)
  have C0 := Lib.hid (show (w.alloc (.cells #[.string f.Name, .int .i64 f.Universe, .int .i64 f.Address, .int .i64 f.Width] 34)).cell? ⟨w.heap.size, 0, none⟩ = some (.string f.Name) from World.cell?_alloc_at _ _ _ _ rfl)
  have C1 := Lib.hid (show (w.alloc (.cells #[.string f.Name, .int .i64 f.Universe, .int .i64 f.Address, .int .i64 f.Width] 34)).cell? ⟨w.heap.size, 1, none⟩ = some (.int .i64 f.Universe) from World.cell?_alloc_at _ _ _ _ rfl)
  have C2 := Lib.hid (show (w.alloc (.cells #[.string f.Name, .int .i64 f.Universe, .int .i64 f.Address, .int .i64 f.Width] 34)).cell? ⟨w.heap.size, 2, none⟩ = some (.int .i64 f.Address) from World.cell?_alloc_at _ _ _ _ rfl)
  have C3 := Lib.hid (show (w.alloc (.cells #[.string f.Name, .int .i64 f.Universe, .int .i64 f.Address, .int .i64 f.Width] 34)).cell? ⟨w.heap.size, 3, none⟩ = some (.int .i64 f.Width) from World.cell?_alloc_at _ _ _ _ rfl)
  have K2 := Lib.hid (fun (W : World) => l20One_any f hf w.heap.size 0 W)
  have Hn := Lib.hid hn
  have HR := Lib.hid hr
  clear hr hn hwf hf
  cases hv : vfs L
  · have H := Lib.hid (show addFR L f = ([], 1) by unfold addFR; rw [if_pos hv])
    rw [hv] at K
    clear hv
    go_enter Try.func57, Try.ntmps57
    go_wp2_with (go_at_call 41; refine K.out.mono ?_; rintro e w1 ⟨rfl, g1⟩; have G1 := Lib.hid (((G.refl w).alloc _).trans g1); have d0 := g1.cell C0.out; have d1 := g1.cell C1.out; have d2 := g1.cell C2.out; have d3 := g1.cell C3.out; clear g1)
    go_ret2
    exact res_nil H.out G1.out
  rw [hv] at K
  have HV := Lib.hid hv
  have HF := Lib.hid (show addFR L f = if vfB f = false then ([], 1) else if hitF2 L f = true then ([], 4) else if L.any (hitSh f) = true then ([], 6) else if n = 16 then ([], 5) else (addFL L f, 0) by unfold addFR; rw [if_neg (by rw [hv]; simp), Hn.out])
  clear hv
  cases hvf : vfB f
  · have H := Lib.hid (show addFR L f = ([], 1) by rw [HF.out, if_pos hvf])
    rw [hvf] at K2
    clear hvf
    go_enter Try.func57, Try.ntmps57
    go_wp2_with (first | (go_at_call 41; refine K.out.mono ?_; rintro e w1 ⟨rfl, g1⟩; have G1 := Lib.hid (((G.refl w).alloc _).trans g1); have d0 := g1.cell C0.out; have d1 := g1.cell C1.out; have d2 := g1.cell C2.out; have d3 := g1.cell C3.out; clear g1) | (go_at_call 43; refine (K2.out _ d0 d1 d2 d3).mono ?_; rintro e w2 ⟨rfl, g2⟩; have G2 := Lib.hid (G1.out.trans g2); replace d0 := g2.cell d0; replace d1 := g2.cell d1; replace d2 := g2.cell d2; replace d3 := g2.cell d3; clear g2))
    go_ret2
    exact res_nil H.out G2.out
  rw [hvf] at K2
  have HE := Lib.hid (show addFR L f = if hitF2 L f = true then ([], 4) else if L.any (hitSh f) = true then ([], 6) else if n = 16 then ([], 5) else (addFL L f, 0) by rw [HF.out, if_neg (by rw [hvf]; simp)])
  have MF := Lib.hid (Mid_of hvf)
  have HM := Lib.hid (show ∀ x ∈ L, Mid x from fun x hx => by obtain ⟨i, hi⟩ := List.mem_iff_getElem?.1 hx; exact Mid_of (vfs_at HV.out hi))
  have hn16 := vfs_len HV.out
  rw [Hn.out] at hn16
  clear hvf
  go_enter Try.func57, Try.ntmps57
  go_wp2_with (first | (go_at_call 41; refine K.out.mono ?_; rintro e w1 ⟨rfl, g1⟩; have G1 := Lib.hid (((G.refl w).alloc _).trans g1); have d0 := g1.cell C0.out; have d1 := g1.cell C1.out; have d2 := g1.cell C2.out; have d3 := g1.cell C3.out; clear g1) | (go_at_call 43; refine (K2.out _ d0 d1 d2 d3).mono ?_; rintro e w2 ⟨rfl, g2⟩; have G2 := Lib.hid (G1.out.trans g2); replace d0 := g2.cell d0; replace d1 := g2.cell d1; replace d2 := g2.cell d2; replace d3 := g2.cell d3; clear g2))
  clear K K2 HF
  have D0 := Lib.hid d0
  have D1 := Lib.hid d1
  have D2 := Lib.hid d2
  have D3 := Lib.hid d3
  have s2 := G2.out.size
  clear d0 d1 d2 d3
  go_loopw [6, 7, 8] (fun t u i wr => ∃ (k a : Nat) (sh : Bool), k ≤ n ∧ a ≤ k ∧ t = .int .i64 a ∧ u = .bool sh ∧ i = .int .i64 k ∧ Hid (∀ j x, j < a → L[j]? = some x → befF f x = true) ∧ Hid (∀ j x, a ≤ j → j < k → L[j]? = some x → befF f x = false ∧ sameF f x = false) ∧ Hid ((L.take k).any (hitSh f) = sh) ∧ Hid (G w2 wr)) (fun _ _ i _ => n - (intOf i).toNat)
  case atStart => exact ⟨0, 0, false, Nat.zero_le _, Nat.le_refl _, rfl, rfl, rfl, Lib.hid (fun j x hj => by omega), Lib.hid (fun j x _ hj => by omega), Lib.hid rfl, Lib.hid (G.refl _)⟩
  case round =>
    obtain ⟨k, a, sh, hk, hak, rfl, rfl, rfl, HA, HB, HS, G3⟩ := hrel
    have hk0 : 0 ≤ (k : Int) := by omega
    by_cases hlt : k < n
    · obtain ⟨b', o, x, hA', hx, hc0, hc1, hc2, hc3⟩ := (HR.out.G (G2.out.trans G3.out)).Fixture (k := k) (by rw [Hn.out]; exact hlt)
      obtain ⟨rfl, rfl⟩ : b = b' ∧ 0 = o := by simpa using hA'
      simp only [Nat.zero_add] at hc0 hc1 hc2 hc3
      have HX := Lib.hid hx
      have gx0 := cellR hc0
      have gf0 := cellR (G3.out.cell D0.out)
      have HC0 := Lib.hid hc0
      have HC1 := Lib.hid hc1
      have HC2 := Lib.hid hc2
      have HC3 := Lib.hid hc3
      have hlt2 : (k : Int) < (n : Int) := by omega
      have MX := Lib.hid (HM.out x (List.mem_of_getElem? hx))
      clear hx hA' hc0 hc1 hc2 hc3
      cases hsm : sameF f x
      · have hd1 : (x.Name.toList == f.Name.toList) = false := hsm
        have HSM := Lib.hid hsm
        clear hsm
        cases hbf : befF f x
        · have hd : Op.bytesLess x.Name.toList f.Name.toList = false := hbf
          have HB2 := Lib.hid (show ∀ j y, a ≤ j → j < k + 1 → L[j]? = some y → befF f y = false ∧ sameF f y = false from fun j y h1 h2 hy => by
            rcases Nat.lt_or_ge j k with h | h
            · exact HB.out j y h1 h hy
            · obtain rfl : j = k := by omega
              rw [HX.out] at hy; cases hy; exact ⟨hbf, HSM.out⟩)
          clear hbf
          go_wp2
          refine region_quiet_G (by kernel_rfl) (by kernel_rfl) ?_; (repeat (go_big_quiet_step ((fail)))); refine wpQuiet_nil ?_
          intro w3 g3
          clear gx0 gf0
          have gx0 := cellR (g3.cell HC0.out)
          have gf0 := cellR (g3.cell (G3.out.cell D0.out))
          have G3b := Lib.hid (G3.out.trans g3)
          have K3 := Lib.hid g3
          clear g3
          go_wp2
          refine region_quiet_G (by kernel_rfl) (by kernel_rfl) ?_; (repeat (go_big_quiet_step ((fail)))); refine wpQuiet_nil ?_
          intro w4 g4
          have G4 := Lib.hid (G3b.out.trans g4)
          have K4 := Lib.hid (K3.out.trans g4)
          clear gx0 gf0 g4
          cases sh with
          | true =>
            have HS2 := Lib.hid (show (L.take (k + 1)).any (hitSh f) = true by rw [any_snoc2 HX.out, HS.out]; rfl)
            go_wp2
            go_roundw
            case rel => exact ⟨k + 1, a, true, by omega, by omega, rfl, rfl, by go_num, HA, HB2, HS2, G4⟩
            case measure => simp [intOf]; omega
          | false =>
            have KS := Lib.hid (l20Shared_any x f MX.out MF.out b (k * 4) w.heap.size 0 w4 (K4.out.cell HC1.out) (K4.out.cell HC2.out) (K4.out.cell HC3.out) (G4.out.cell D1.out) (G4.out.cell D2.out) (G4.out.cell D3.out))
            cases hh : hitSh f x
            · have e0 := hitSh_comm0.1 hh
              rw [e0] at KS
              have HS2 := Lib.hid (show (L.take (k + 1)).any (hitSh f) = false by rw [any_snoc2 HX.out, HS.out, hh]; rfl)
              clear e0 hh
              go_wp2_with (go_at_call 52; refine KS.out.mono ?_; rintro e w5 ⟨rfl, g5⟩; have G5 := Lib.hid (G4.out.trans g5); clear g5)
              go_roundw
              case rel => exact ⟨k + 1, a, false, by omega, by omega, rfl, rfl, by go_num, HA, HB2, HS2, G5⟩
              case measure => simp [intOf]; omega
            · obtain ⟨q, HQ⟩ : ∃ q, Hid (shF x f = q) := ⟨_, rfl⟩
              have hs : 0 < q := by
                have h1 := (hitSh_comm0 (f := f) (x := x)).2
                have h2 := shF_nonneg x f
                rw [HQ.out] at h1 h2
                rw [hh] at h1
                have h3 : q ≠ 0 := fun e => by have h4 := h1 e; cases h4
                omega
              rw [HQ.out] at KS
              have HS2 := Lib.hid (show (L.take (k + 1)).any (hitSh f) = true by rw [any_snoc2 HX.out, HS.out, hh]; rfl)
              clear hh
              go_wp2_with (go_at_call 52; refine KS.out.mono ?_; rintro e w5 ⟨rfl, g5⟩; have G5 := Lib.hid (G4.out.trans g5); clear g5)
              go_roundw
              case rel => exact ⟨k + 1, a, true, by omega, by omega, rfl, rfl, by go_num, HA, HB2, HS2, G5⟩
              case measure => simp [intOf]; omega
        · have hd : Op.bytesLess x.Name.toList f.Name.toList = true := hbf
          have HA2 := Lib.hid (show ∀ j y, j < k + 1 → L[j]? = some y → befF f y = true from fun j y hj hy => by
            rcases Nat.lt_or_ge j k with h | h
            · exact bef_below HV.out HX.out (.inr hbf) j y h hy
            · obtain rfl : j = k := by omega
              rw [HX.out] at hy; cases hy; exact hbf)
          have HB2 := Lib.hid (show ∀ j y, k + 1 ≤ j → j < k + 1 → L[j]? = some y → befF f y = false ∧ sameF f y = false from fun j y h1 h2 => by omega)
          clear hbf
          go_wp2
          refine region_quiet_G (by kernel_rfl) (by kernel_rfl) ?_; (repeat (go_big_quiet_step ((fail)))); refine wpQuiet_nil ?_
          intro w3 g3
          clear gx0 gf0
          have gx0 := cellR (g3.cell HC0.out)
          have gf0 := cellR (g3.cell (G3.out.cell D0.out))
          have G3b := Lib.hid (G3.out.trans g3)
          have K3 := Lib.hid g3
          clear g3
          go_wp2
          refine region_quiet_G (by kernel_rfl) (by kernel_rfl) ?_; (repeat (go_big_quiet_step ((fail)))); refine wpQuiet_nil ?_
          intro w4 g4
          have G4 := Lib.hid (G3b.out.trans g4)
          have K4 := Lib.hid (K3.out.trans g4)
          clear gx0 gf0 g4
          cases sh with
          | true =>
            have HS2 := Lib.hid (show (L.take (k + 1)).any (hitSh f) = true by rw [any_snoc2 HX.out, HS.out]; rfl)
            go_wp2
            go_roundw
            case rel => exact ⟨k + 1, k + 1, true, by omega, by omega, by go_num, rfl, by go_num, HA2, HB2, HS2, G4⟩
            case measure => simp [intOf]; omega
          | false =>
            have KS := Lib.hid (l20Shared_any x f MX.out MF.out b (k * 4) w.heap.size 0 w4 (K4.out.cell HC1.out) (K4.out.cell HC2.out) (K4.out.cell HC3.out) (G4.out.cell D1.out) (G4.out.cell D2.out) (G4.out.cell D3.out))
            cases hh : hitSh f x
            · have e0 := hitSh_comm0.1 hh
              rw [e0] at KS
              have HS2 := Lib.hid (show (L.take (k + 1)).any (hitSh f) = false by rw [any_snoc2 HX.out, HS.out, hh]; rfl)
              clear e0 hh
              go_wp2_with (go_at_call 52; refine KS.out.mono ?_; rintro e w5 ⟨rfl, g5⟩; have G5 := Lib.hid (G4.out.trans g5); clear g5)
              go_roundw
              case rel => exact ⟨k + 1, k + 1, false, by omega, by omega, by go_num, rfl, by go_num, HA2, HB2, HS2, G5⟩
              case measure => simp [intOf]; omega
            · obtain ⟨q, HQ⟩ : ∃ q, Hid (shF x f = q) := ⟨_, rfl⟩
              have hs : 0 < q := by
                have h1 := (hitSh_comm0 (f := f) (x := x)).2
                have h2 := shF_nonneg x f
                rw [HQ.out] at h1 h2
                rw [hh] at h1
                have h3 : q ≠ 0 := fun e => by have h4 := h1 e; cases h4
                omega
              rw [HQ.out] at KS
              have HS2 := Lib.hid (show (L.take (k + 1)).any (hitSh f) = true by rw [any_snoc2 HX.out, HS.out, hh]; rfl)
              clear hh
              go_wp2_with (go_at_call 52; refine KS.out.mono ?_; rintro e w5 ⟨rfl, g5⟩; have G5 := Lib.hid (G4.out.trans g5); clear g5)
              go_roundw
              case rel => exact ⟨k + 1, k + 1, true, by omega, by omega, by go_num, rfl, by go_num, HA2, HB2, HS2, G5⟩
              case measure => simp [intOf]; omega
      · have H1 := Lib.hid (show addFR L f = ([], 4) by rw [HE.out, if_pos (by unfold hitF2; rw [posF_eq (f := f) (by rw [Hn.out]; exact hk) (bef_below HV.out HX.out (.inl hsm)) (fun y hy => by rw [HX.out] at hy; cases hy; exact same_not_bef hsm), HX.out]; exact hsm)])
        have hd1 : (x.Name.toList == f.Name.toList) = true := hsm
        clear hsm
        go_wp2
        refine region_quiet_G (by kernel_rfl) (by kernel_rfl) ?_; (repeat (go_big_quiet_step ((fail)))); refine wpQuiet_nil ?_
        intro w3 g3
        have G4 := Lib.hid (G3.out.trans g3)
        clear gx0 gf0 g3
        go_wp2
        go_ret2
        exact res_nil H1.out (G2.out.trans G4.out)
    · have hkn : n = k := by omega
      subst hkn
      have HP := Lib.hid (posF_eq (f := f) (k := a) (by rw [Hn.out]; exact hak) HA.out (fun y hy => (HB.out a y (Nat.le_refl _) (by have := (List.getElem?_eq_some_iff.1 hy).1; rw [Hn.out] at this; exact this) hy).1))
      have HH := Lib.hid (show hitF2 L f = false by
        unfold hitF2
        rw [HP.out]
        cases hq : L[a]? with
        | none => rfl
        | some y => exact (HB.out a y (Nat.le_refl _) (by have := (List.getElem?_eq_some_iff.1 hq).1; rw [Hn.out] at this; exact this) hq).2)
      have HSN := Lib.hid (show L.any (hitSh f) = sh by rw [← HS.out, List.take_of_length_le (by rw [Hn.out]; exact Nat.le_refl _)])
      cases sh with
      | true =>
        have H1 := Lib.hid (show addFR L f = ([], 6) by rw [HE.out, if_neg (by rw [HH.out]; simp), if_pos HSN.out])
        go_wp2
        go_ret2
        exact res_nil H1.out (G2.out.trans G3.out)
      | false =>
        by_cases h16 : n = 16
        · have H1 := Lib.hid (show addFR L f = ([], 5) by rw [HE.out, if_neg (by rw [HH.out]; simp), if_neg (by rw [HSN.out]; simp), if_pos h16])
          have hd2 : ((n : Int) == 16) = true := by simp [h16]
          clear h16
          go_wp2
          go_ret2
          exact res_nil H1.out (G2.out.trans G3.out)
        · have H1 := Lib.hid (show addFR L f = (L.take a ++ f :: L.drop a, 0) by rw [HE.out, if_neg (by rw [HH.out]; simp), if_neg (by rw [HSN.out]; simp), if_neg h16, addFL, HP.out])
          have hd2 : ((n : Int) == 16) = false := by simp; omega
          have ha0 : 0 ≤ (a : Int) := by omega
          have ha1 : (a : Int) ≤ (n : Int) := by omega
          have ha2 : (a : Int) ≤ (c : Int) := by omega
          have hac : a ≤ c := by omega
          have s3 := G3.out.size
          have HL1 := Lib.hid (show ((L.take a).flatMap cFixture).length = a * 4 by rw [flat_len cFixture_len, List.length_take, Hn.out]; congr 1; omega)
          have HL2 := Lib.hid (show ((L.drop a).flatMap cFixture).length = (n - a) * 4 by rw [flat_len cFixture_len, List.length_drop, Hn.out])
          have HNW := Lib.hid (fun (W : World) (g : G w W) => rd_news cFixture_len (HR.out.G g))
          clear h16
          by_cases hca : c = a
          · subst hca
            go_wp2_with (at_builtin; refine wpList_append_own _ rfl (.tmp 53) (.tmp 56) 24 rfl w.heap.size 34 i0 (.agg #[.string ⟨#[]⟩, .int .i64 0, .int .i64 0, .int .i64 0]) 4 40 Try.underlying24 HI.out.1 HI.out.2.1 HI.out.2.2.1 HI.out.2.2.2 rfl (by decide) _ (0) _ rfl (World.ownsRow_lit (size := 4) wr #[] 0 ?c4 ?c5 rfl) ⟨b, 0, none⟩ (c) (c) ((L.take c).flatMap cFixture) rfl HL1.out ?c6 (flat_one cFixture_one _) ?c1 ?c2 ?c3 ?_)
            case c1 => unfold maxLen; omega
            case c2 => omega
            case c3 => simp; omega
            case c4 => omega
            case c5 => unfold maxLen; omega
            case c6 =>
              intro j u hj
              rw [← flat_take cFixture_len, List.getElem?_take] at hj
              split at hj
              · exact HNW.out _ ((G2.out.trans G3.out).alloc _) j u hj
              · cases hj
            intro v5 w5 hown hgrow _
            have HO5 := Lib.hid (show w5.ownsRow w.heap.size 34 4 v5 c ((L.take c).flatMap cFixture) by simpa using hown)
            have G5 := Lib.hid ((G3.out.alloc _).grown hgrow (by intro q hq; simp [Value.ownBlock] at hq; omega))
            have d0 := G5.out.cell D0.out
            have d1 := G5.out.cell D1.out
            have d2 := G5.out.cell D2.out
            have d3 := G5.out.cell D3.out
            have s5 := G5.out.size
            clear hown hgrow
            go_wp2_with (at_builtin; refine wpList_append_own _ rfl (.tmp 58) (.tmp 60) 24 rfl w.heap.size 34 i0 (.agg #[.string ⟨#[]⟩, .int .i64 0, .int .i64 0, .int .i64 0]) 4 40 Try.underlying24 HI.out.1 HI.out.2.1 HI.out.2.2.1 HI.out.2.2.2 rfl (by decide) _ (c) _ rfl (HO5.out.alloc _) ⟨w5.heap.size, 0, none⟩ (1) (1) (cFixture f) rfl rfl (block_news _ (cFixture f) _) (cFixture_one f) ?c1 ?c2 ?c3 ?_)
            case c1 => unfold maxLen; omega
            case c2 => omega
            case c3 => simp; omega
            intro v6 w6 hown hgrow _
            have HO6 := Lib.hid (show w6.ownsRow w.heap.size 34 4 v6 (c + 1) ((L.take c ++ [f]).flatMap cFixture) by rw [List.flatMap_append]; simpa using hown)
            have G6 := Lib.hid (show G w w6 from ((G2.out.trans G5.out).alloc _).grown hgrow (own_block_of HO5.out))
            have s6 := G6.out.size
            clear hown hgrow d0 d1 d2 d3
            obtain rfl : n = c := by omega
            have HD := Lib.hid (show L.drop n = [] from List.drop_of_length_le (by rw [Hn.out]; exact Nat.le_refl _))
            go_wp2_with (at_builtin; refine wpList_append_own _ rfl (.tmp 62) (.tmp 65) 24 rfl w.heap.size 34 i0 (.agg #[.string ⟨#[]⟩, .int .i64 0, .int .i64 0, .int .i64 0]) 4 40 Try.underlying24 HI.out.1 HI.out.2.1 HI.out.2.2.1 HI.out.2.2.2 rfl (by decide) _ (n + 1) _ rfl HO6.out ⟨b, 0, none⟩ (0) (0) [] rfl rfl (fun j u hj => by simp at hj) (fun u hu => by simp at hu) ?c1 ?c2 ?c3 ?_)
            case c1 => unfold maxLen; omega
            case c2 => omega
            case c3 => omega
            intro v7 w7 hown hgrow _
            have HO7 := Lib.hid (show w7.ownsRow w.heap.size 34 4 v7 (n + 1) ((L.take n ++ f :: L.drop n).flatMap cFixture) by rw [HD.out]; simpa using hown)
            have G7 := Lib.hid (G6.out.grown hgrow (own_block_of HO6.out))
            clear hown hgrow
            go_wp2
            go_ret2
            exact res_own H1.out (by rw [List.length_append, List.length_cons, List.length_take, List.length_drop, Hn.out]; omega) HO7.out G7.out
          · skip
            go_wp2_with (at_builtin; refine wpList_append_own _ rfl (.tmp 53) (.tmp 56) 24 rfl w.heap.size 34 i0 (.agg #[.string ⟨#[]⟩, .int .i64 0, .int .i64 0, .int .i64 0]) 4 40 Try.underlying24 HI.out.1 HI.out.2.1 HI.out.2.2.1 HI.out.2.2.2 rfl (by decide) _ (0) _ rfl (World.ownsRow_lit (size := 4) wr #[] 0 ?c4 ?c5 rfl) ⟨b, 0, none⟩ (a) (c) ((L.take a).flatMap cFixture) rfl HL1.out ?c6 (flat_one cFixture_one _) ?c1 ?c2 ?c3 ?_)
            case c1 => unfold maxLen; omega
            case c2 => omega
            case c3 => simp; omega
            case c4 => omega
            case c5 => unfold maxLen; omega
            case c6 =>
              intro j u hj
              rw [← flat_take cFixture_len, List.getElem?_take] at hj
              split at hj
              · exact HNW.out _ ((G2.out.trans G3.out).alloc _) j u hj
              · cases hj
            intro v5 w5 hown hgrow _
            have HO5 := Lib.hid (show w5.ownsRow w.heap.size 34 4 v5 a ((L.take a).flatMap cFixture) by simpa using hown)
            have G5 := Lib.hid ((G3.out.alloc _).grown hgrow (by intro q hq; simp [Value.ownBlock] at hq; omega))
            have d0 := G5.out.cell D0.out
            have d1 := G5.out.cell D1.out
            have d2 := G5.out.cell D2.out
            have d3 := G5.out.cell D3.out
            have s5 := G5.out.size
            clear hown hgrow
            go_wp2_with (at_builtin; refine wpList_append_own _ rfl (.tmp 58) (.tmp 60) 24 rfl w.heap.size 34 i0 (.agg #[.string ⟨#[]⟩, .int .i64 0, .int .i64 0, .int .i64 0]) 4 40 Try.underlying24 HI.out.1 HI.out.2.1 HI.out.2.2.1 HI.out.2.2.2 rfl (by decide) _ (a) _ rfl (HO5.out.alloc _) ⟨w5.heap.size, 0, none⟩ (1) (1) (cFixture f) rfl rfl (block_news _ (cFixture f) _) (cFixture_one f) ?c1 ?c2 ?c3 ?_)
            case c1 => unfold maxLen; omega
            case c2 => omega
            case c3 => simp; omega
            intro v6 w6 hown hgrow _
            have HO6 := Lib.hid (show w6.ownsRow w.heap.size 34 4 v6 (a + 1) ((L.take a ++ [f]).flatMap cFixture) by rw [List.flatMap_append]; simpa using hown)
            have G6 := Lib.hid (show G w w6 from ((G2.out.trans G5.out).alloc _).grown hgrow (own_block_of HO5.out))
            have s6 := G6.out.size
            clear hown hgrow d0 d1 d2 d3
            go_wp2_with (at_builtin; refine wpList_append_own _ rfl (.tmp 62) (.tmp 65) 24 rfl w.heap.size 34 i0 (.agg #[.string ⟨#[]⟩, .int .i64 0, .int .i64 0, .int .i64 0]) 4 40 Try.underlying24 HI.out.1 HI.out.2.1 HI.out.2.2.1 HI.out.2.2.2 rfl (by decide) _ (a + 1) _ rfl HO6.out ⟨b, a * 4, none⟩ (n - a) (c - a) ((L.drop a).flatMap cFixture) rfl HL2.out ?c6 (flat_one cFixture_one _) ?c1 ?c2 ?c3 ?_)
            case c1 => unfold maxLen; omega
            case c2 => omega
            case c3 => omega
            case c6 =>
              intro j u hj
              rw [← flat_drop cFixture_len, List.getElem?_drop] at hj
              have := HNW.out _ G6.out _ u hj
              rw [Addr.add_lit] at this ⊢
              simpa using this
            intro v7 w7 hown hgrow _
            have HO7 := Lib.hid (show w7.ownsRow w.heap.size 34 4 v7 (n + 1) ((L.take a ++ f :: L.drop a).flatMap cFixture) by
              have h1 := hown
              rw [show a + 1 + (n - a) = n + 1 by omega] at h1
              rw [List.flatMap_append, List.flatMap_cons]
              first | exact h1 | simpa using h1)
            have G7 := Lib.hid (G6.out.grown hgrow (own_block_of HO6.out))
            clear hown hgrow
            go_wp2
            go_ret2
            exact res_own H1.out (by rw [List.length_append, List.length_cons, List.length_take, List.length_drop, Hn.out]; omega) HO7.out G7.out
end Go.Proofs.Ytckenipmebeopaa
