/-
  Walks: UniverseLevels, by the program's text.
-/
import Derived.Test.YtckenipmebeopaaUniM
import Derived.Test.YtckenipmebeopaaRowsW
import Derived.Test.YtckenipmebeopaaIns
import Derived.Deep.RegionHeld3
import Derived.Deep.RegionLaw
namespace Go.Proofs.Ytckenipmebeopaa
open Go.RowKit

theorem flat_zero (n : Nat) : (List.replicate n (0 : Int)).flatMap iv = List.replicate n (.int .i64 0) := by
  induction n with
  | zero => rfl
  | succ n ih => rw [List.replicate_succ, List.replicate_succ, List.flatMap_cons, ih]; rfl
theorem uSt_zero (u : Int) (Z : List (SFixture × List Int)) : (uSt u (Z.take 0)).flatMap iv = List.replicate 512 (.int .i64 0) := by
  show (List.replicate 512 (0 : Int)).flatMap iv = _
  exact flat_zero 512
theorem flat_iv (L : List Int) : L.flatMap iv = L.map (Value.int .i64) := by
  induction L with
  | nil => rfl
  | cons x L ih => rw [List.flatMap_cons, ih]; rfl
theorem spl_flat (out : List Int) (a : Nat) (r : List Int) : (spl out a r).flatMap iv = (out.flatMap iv).take a ++ r.flatMap iv ++ (out.flatMap iv).drop (a + (r.flatMap iv).length) := by
  simp [spl, flat_iv, List.map_take, List.map_drop]
theorem iv_one (L : List Int) : ∀ v ∈ L.flatMap iv, v.oneCell' = true := flat_one (f := iv) (fun x u hu => by simp only [iv, List.mem_singleton] at hu; subst hu; rfl) L
theorem infoI64 : (Try.prog.info? 2).map (fun i => (i.zero, i.size, i.bytes)) = some (some (.int .i64 0), 1, 8) := by kernel_rfl

set_option maxRecDepth 20000 in
set_option maxHeartbeats 4000000 in
theorem iUniverseLevels_any (A : Option Addr) (n c : Nat) (L : List SFixture) (B : Option Addr) (m d : Nat) (M : List (List Int)) (u : Int) (w : World) (hr : Rd w A 4 cFixture L) (hn : L.length = n) (hb : n ≤ 4194304) (hcap : n ≤ c) (hwf : ∀ x ∈ L, WfFixture x) (hr2 : RdR w B M) (hm : M.length = m) (hmb : m ≤ 4194304) (hrow : ∀ r ∈ M, r.length ≤ 1048576) :
    Calls Try.prog 7 #[.slice A n c, .slice B m d, .int .i64 u] w (Res w 2 1 iv (uniR L M u)) := by
  have K := Lib.hid (ValidFixtures_any A n c L w hr hn hb hcap hwf)
  have K2 := Lib.hid (fun W => within_any u 1 8 W)
  have Hn := Lib.hid hn
  have HR := Lib.hid hr
  have Hm := Lib.hid hm
  have HR2 := Lib.hid hr2
  have HRW := Lib.hid hrow
  have s0 : w.heap.size ≤ w.heap.size := Nat.le_refl _
  clear hr hn hwf hr2 hm hrow hcap
  cases hv : vfs L
  · have H := Lib.hid (show uniR L M u = ([], 1) by unfold uniR; rw [if_pos hv])
    rw [hv] at K
    clear hv
    go_enter Try.func7, Try.ntmps7
    go_wp2_with (go_at_call 25; with_reducible refine K.out.mono ?_; rintro e w1 ⟨rfl, g1⟩; have G1 := Lib.hid g1; have s1 := g1.size; clear g1)
    go_ret2
    exact res_nil H.out G1.out
  rw [hv] at K
  have HF := Lib.hid (show uniR L M u = if inB u 1 8 = false then ([], 2) else if M.length = L.length then (if (L.zip M).all fitB = true then (uSt u (L.zip M), 0) else ([], 2)) else ([], 2) by unfold uniR; rw [if_neg (by rw [hv]; simp)])
  have HV := Lib.hid hv
  clear hv
  cases hu : inB u 1 8
  · have H := Lib.hid (show uniR L M u = ([], 2) by rw [HF.out, if_pos hu])
    rw [hu] at K2
    clear hu
    by_cases hmn : m = n
    all_goals
      go_enter Try.func7, Try.ntmps7
      go_wp2_with (first | (go_at_call 25; with_reducible refine K.out.mono ?_; rintro e w1 ⟨rfl, g1⟩; have G1 := Lib.hid g1; have s1 := g1.size; clear g1) | (go_at_call 26; with_reducible refine (K2.out _).mono ?_; rintro e w2 ⟨rfl, rfl⟩))
      go_ret2
      exact res_nil H.out G1.out
  rw [hu] at K2
  replace HF := Lib.hid (show uniR L M u = if M.length = L.length then (if (L.zip M).all fitB = true then (uSt u (L.zip M), 0) else ([], 2)) else ([], 2) by rw [HF.out, if_neg (by rw [hu]; simp)])
  clear hu
  by_cases hmn : m = n
  case neg =>
    have H := Lib.hid (show uniR L M u = ([], 2) by rw [HF.out, if_neg (by rw [Hm.out, Hn.out]; exact hmn)])
    have hd : ((m : Int) == (n : Int)) = false := by simp; omega
    have hd2 : ((m : Int) != (n : Int)) = true := by simp; omega
    go_enter Try.func7, Try.ntmps7
    go_wp2_with (first | (go_at_call 25; with_reducible refine K.out.mono ?_; rintro e w1 ⟨rfl, g1⟩; have G1 := Lib.hid g1; have s1 := g1.size; clear g1) | (go_at_call 26; with_reducible refine (K2.out _).mono ?_; rintro e w2 ⟨rfl, rfl⟩))
    go_ret2
    exact res_nil H.out G1.out
  subst hmn
  replace HF := Lib.hid (show uniR L M u = if (L.zip M).all fitB = true then (uSt u (L.zip M), 0) else ([], 2) by rw [HF.out, if_pos (by rw [Hm.out, Hn.out])])
  have hm16 := vfs_len HV.out
  rw [Hn.out] at hm16
  have hmk : ∀ w : World, (Instr.makeSlice 28 (.int .i64 512) (.int .i64 512)).run Try.prog w = .ok (.slice (some ⟨w.heap.size, 0, none⟩) 512 512) (w.alloc (.cells (Array.replicate 512 (.int .i64 0)) 2)) := fun _ => by kernel_rfl
  go_enter Try.func7, Try.ntmps7
  go_wp2_with (first | (go_at_call 25; with_reducible refine K.out.mono ?_; rintro e w1 ⟨rfl, g1⟩; have G1 := Lib.hid g1; have s1 := g1.size; clear g1) | (go_at_call 26; with_reducible refine (K2.out _).mono ?_; rintro e w2 ⟨rfl, rfl⟩))
  clear K K2
  go_loopw [28] (fun i wr => ∃ (k : Nat), k ≤ m ∧ i = .int .i64 k ∧ Hid (((L.zip M).take k).all fitB = true) ∧ Hid (G w wr)) (fun i _ => m - (intOf i).toNat)
  case atStart => exact ⟨0, Nat.zero_le _, rfl, Lib.hid (by simp), G1⟩
  case round =>
    obtain ⟨k, hk, rfl, HA, G0⟩ := hrel
    have hsz := G0.out.size
    by_cases hlt : k < m
    · obtain ⟨b, o, x, rfl, hx, hc0, hc1, hc2, hc3⟩ := (HR.out.G G0.out).Fixture (k := k) (by rw [Hn.out]; exact hlt)
      obtain ⟨b2, o2, r, Ai, ci, rfl, hrk, hcap, hcr, hrd⟩ := (HR2.out.g G0.out).at_ (k := k) (by rw [Hm.out]; exact hlt)
      have HZ := Lib.hid (zip_at hx hrk)
      have hrl := HRW.out r (List.mem_of_getElem? hrk)
      have hxb := vfB_bd (vfs_at HV.out hx)
      have HRD := Lib.hid hrd
      have hlt2 : (k : Int) < (m : Int) := by omega
      have hk0 : 0 ≤ (k : Int) := by omega
      clear hx hrk hrd
      have gx := (G.refl wr).alloc (.cells #[.string x.Name, .int .i64 x.Universe, .int .i64 x.Address, .int .i64 x.Width] 34)
      have gcr := cellR (w := (wr.alloc (.cells #[.string x.Name, .int .i64 x.Universe, .int .i64 x.Address, .int .i64 x.Width] 34))) (gx.cell hcr)
      have gcw := cellR (w := (wr.alloc (.cells #[.string x.Name, .int .i64 x.Universe, .int .i64 x.Address, .int .i64 x.Width] 34))) (a := ⟨wr.heap.size, 3, none⟩) (v := .int .i64 x.Width) ((World.cell?_alloc_at _ _ _ 3 rfl).trans rfl)
      have KL := Lib.hid (fun (D : Nat) (os : Array Obj) => areLevels_any Ai r.length ci r (Sort.grow (redrawn (wr.alloc (.cells #[.string x.Name, .int .i64 x.Universe, .int .i64 x.Address, .int .i64 x.Width] 34)) D) os) (rdR (HRD.out.G gx) D os) rfl (by omega))
      have GW := Lib.hid (G0.out.trans gx)
      clear gx hcr
      by_cases hw : (r.length : Int) = x.Width
      · have hd : ((r.length : Int) == x.Width) = true := by simp [hw]
        have hd2 : ((r.length : Int) != x.Width) = false := by simp [hw]
        have HWd := Lib.hid hw
        clear hw
        cases hl : lvs r
        · have H := Lib.hid (show uniR L M u = ([], 2) by rw [HF.out, if_neg]; rw [Bool.not_eq_true]; exact all_false HZ.out (by simp [fitB, hl]))
          rw [hl] at KL
          clear hl
          go_wp2
          refine region_quiet_G (by kernel_rfl) (by kernel_rfl) ?_; (repeat (go_big_quiet_step (((go_at_call 27; exact quiet_G_same (KL.out _ _)))))); refine wpQuiet_nil ?_
          intro w3 g3
          have G3 := Lib.hid (GW.out.trans g3)
          clear g3 gcr gcw
          go_wp2
          go_ret2
          exact res_nil H.out G3.out
        · have HA2 := Lib.hid (all_snoc HZ.out HA.out (by simp [fitB, hl, HWd.out]))
          rw [hl] at KL
          clear hl
          go_wp2
          refine region_quiet_G (by kernel_rfl) (by kernel_rfl) ?_; (repeat (go_big_quiet_step (((go_at_call 27; exact quiet_G_same (KL.out _ _)))))); refine wpQuiet_nil ?_
          intro w3 g3
          have G3 := Lib.hid (GW.out.trans g3)
          clear g3 gcr gcw
          go_wp2
          go_roundw
          case rel => exact ⟨k + 1, by omega, by go_num, HA2, G3⟩
          case measure => simp [intOf]; omega
      · have H := Lib.hid (show uniR L M u = ([], 2) by rw [HF.out, if_neg]; rw [Bool.not_eq_true]; exact all_false HZ.out (by simp [fitB, hw]))
        have hd : ((r.length : Int) == x.Width) = false := by simp [hw]
        have hd2 : ((r.length : Int) != x.Width) = true := by simp [hw]
        clear hw
        go_wp2
        refine region_quiet_G (by kernel_rfl) (by kernel_rfl) ?_; (repeat (go_big_quiet_step (((go_at_call 27; exact quiet_G_same (KL.out _ _)))))); refine wpQuiet_nil ?_
        intro w3 g3
        have G3 := Lib.hid (GW.out.trans g3)
        clear g3 gcr gcw
        go_wp2
        go_ret2
        exact res_nil H.out G3.out
    · obtain rfl : k = m := by omega
      have HALL := Lib.hid (show (L.zip M).all fitB = true from all_take_all (by rw [List.length_zip, Hn.out, Hm.out]; omega) HA.out)
      have H := Lib.hid (show uniR L M u = (uSt u (L.zip M), 0) by rw [HF.out, if_pos HALL.out])
      have HLEN := Lib.hid (uSt_len HV.out HALL.out u)
      have GA := Lib.hid G0.out
      clear HF HA G0 hk hlt
      obtain ⟨wa, rfl⟩ : ∃ wa : World, wa = wr := ⟨_, rfl⟩
      go_wp2
      obtain ⟨q, HQ⟩ : ∃ q, Hid (wa.heap.size = q) := ⟨_, rfl⟩
      have hq0 : w.heap.size ≤ q := by rw [← HQ.out]; exact GA.out.size
      have OZ := Lib.hid (World.ownsRow_lit (e := 2) (base := w.heap.size) (size := 1) wa (Array.replicate 512 (.int .i64 0)) 512 GA.out.size (by decide) (by simp))
      rw [HQ.out] at OZ
      rw [HQ.out]
      clear hmk
      go_loopw [53] (fun i wr => ∃ (j : Nat), j ≤ k ∧ i = .int .i64 j ∧ Hid (wr.ownsRow w.heap.size 2 1 (.slice (some ⟨q, 0, none⟩) 512 512) 512 ((uSt u ((L.zip M).take j)).flatMap iv)) ∧ Hid (G w wr)) (fun i _ => k - (intOf i).toNat)
      case atStart => exact ⟨0, Nat.zero_le _, rfl, Lib.hid (by rw [uSt_zero]; have := OZ.out; rw [Array.toList_replicate] at this; exact this), Lib.hid (GA.out.alloc _)⟩
      case round =>
        clear OZ
        obtain ⟨j, hj, rfl, HO, G0⟩ := hrel
        have hql := HO.out.lt q rfl
        by_cases hlt : j < k
        · obtain ⟨b, o, x, rfl, hx, hc0, hc1, hc2, hc3⟩ := HR.out.Fixture (k := j) (by rw [Hn.out]; exact hlt)
          obtain ⟨b2, o2, r, Ai, ci, rfl, hrk, hcap, hcr, hrd⟩ := HR2.out.at_ (k := j) (by rw [Hm.out]; exact hlt)
          have hbl := block_lt_of_cell hc1
          have hbl2 := block_lt_of_cell hcr
          simp only at hbl hbl2
          replace hc0 := G0.out.cell hc0
          replace hc1 := G0.out.cell hc1
          replace hc2 := G0.out.cell hc2
          replace hc3 := G0.out.cell hc3
          replace hcr := G0.out.cell hcr
          have HRD0 := Lib.hid hrd
          replace hrd := hrd.G G0.out
          have HZ := Lib.hid (zip_at hx hrk)
          have hfit := all_at HALL.out HZ.out
          simp only [fitB, Bool.and_eq_true, beq_iff_eq] at hfit
          have hxb := vfB_bd (vfs_at HV.out hx)
          have HRD := Lib.hid hrd
          have HST := Lib.hid (uSt_snoc (u := u) HZ.out)
          have HL := Lib.hid (HLEN.out j)
          have hlt2 : (j : Int) < (k : Int) := by omega
          have hk0 : 0 ≤ (j : Int) := by omega
          have hw := hfit.1
          obtain ⟨a, ha⟩ : ∃ a : Nat, x.Address = a + 1 := ⟨(x.Address - 1).toNat, by omega⟩
          have hab : a + r.length ≤ 512 := by omega
          have HAD := Lib.hid (show (x.Address - 1).toNat = a by omega)
          rw [ha] at hc2
          clear hx hrk hrd hfit
          by_cases hu : x.Universe = u
          · have HN := Lib.hid (show uSt u ((L.zip M).take (j + 1)) = spl (uSt u ((L.zip M).take j)) a r by rw [HST.out, uStep, if_pos hu, HAD.out])
            have hd : (x.Universe == u) = true := by simp [hu]
            clear hu
            obtain ⟨bi, oi, hAi, _⟩ := HRD.out (by rintro rfl; simp at hw; omega)
            subst hAi
            obtain ⟨i0, hi0, hz0, hz1, hz2⟩ := info_parts infoI64
            have GW := Lib.hid (((G.refl wr).alloc (.cells #[.string x.Name, .int .i64 x.Universe, .int .i64 ((a : Int) + 1), .int .i64 x.Width] 34)).drew)
            have OW := Lib.hid (own_G HO.out GW.out)
            have hcl : (r.flatMap iv).length = r.length := by rw [flat_iv, List.length_map]
            have OS := Lib.hid (own_setCells (r.flatMap iv) a OW.out (by omega))
            have HCP : Hid (∀ ty dl dc sc, Nat.min r.length dl = r.length → (Builtin.copy_ #[28, 28] ty #[.slice (some ⟨q, a, none⟩) dl dc, .slice (some ⟨bi, oi, none⟩) r.length sc]).run Try.prog (wr.alloc (.cells #[.string x.Name, .int .i64 x.Universe, .int .i64 ((a : Int) + 1), .int .i64 x.Width] 34)).drew = .ok (goInt r.length) ((wr.alloc (.cells #[.string x.Name, .int .i64 x.Universe, .int .i64 ((a : Int) + 1), .int .i64 x.Width] 34)).drew.setCells q a (r.flatMap iv))) := Lib.hid (fun ty dl dc sc hmin =>
              run_copy_sz _ _ _ ty 2 i0 q a dl dc ⟨bi, oi, none⟩ r.length sc r.length (r.flatMap iv) Try.underlying28 hi0 hmin (by rw [hcl, hz1, Nat.mul_one]) (rd_news (fun _ => rfl) (HRD.out.G GW.out)) (fun j hj => (own_room OW.out (by omega)).1) (fun j hj => (own_room OW.out (by omega)).2) (iv_one r))
            have G2 := Lib.hid (Gx.G (G0.out.trans GW.out) OS.out.2 (by intro i hi; cases hi; omega))
            have hmin := Lib.hid (show Nat.min r.length (512 - a) = r.length by simp only [Nat.min_def]; split <;> omega)
            have e1 : IntKind.i64.wrap (a : Int) = (a : Int) := IntWalk.i64_in _ (by omega)
            have e2 : ((a : Int)).toNat = a := by omega
            have ha0 : (0 : Int) ≤ (a : Int) := by omega
            have ha1 : (a : Int) ≤ 512 := by omega
            have ha2 : ¬ (512 = a) := by omega
            have HAB := Lib.hid hab
            have hcr2 := ((G.refl wr).alloc (.cells #[.string x.Name, .int .i64 x.Universe, .int .i64 ((a : Int) + 1), .int .i64 x.Width] 34)).cell hcr
            clear hi0 hz0 hz1 hz2 hcl hw ha
            go_wp2
            go_region_law (refine step_copy_run1 rfl (.tmp 66) (.tmp 70) 28 28 rfl (.slice (some ⟨q, a, none⟩) (512 - a) (512 - a)) (.slice (some ⟨bi, oi, none⟩) r.length ci) (by simp [Act.eval, Act.put]) (by simp [Act.eval, Act.put]) (HCP.out _ _ _ _ hmin.out) ?_)
            all_goals
              go_wp2
              go_roundw
              case rel => exact ⟨j + 1, by omega, by go_num, Lib.hid (by rw [HN.out, spl_flat]; exact OS.out.1), G2⟩
              case measure => simp [intOf]; omega
          · have HN := Lib.hid (show uSt u ((L.zip M).take (j + 1)) = uSt u ((L.zip M).take j) by rw [HST.out, uStep, if_neg hu])
            have hd : (x.Universe == u) = false := by simp [hu]
            clear hu
            go_wp2
            go_roundw
            case rel => exact ⟨j + 1, by omega, by go_num, Lib.hid (by rw [HN.out]; exact HO.out.alloc _), Lib.hid (G0.out.alloc _)⟩
            case measure => simp [intOf]; omega
        · obtain rfl : j = k := by omega
          have e := HLEN.out j
          rw [List.take_of_length_le (by rw [List.length_zip, Hn.out, Hm.out]; omega)] at HO e
          go_wp2
          go_ret2
          exact res_own H.out e HO.out G0.out
end Go.Proofs.Ytckenipmebeopaa
