/-
  Walks: valid cues, by both texts.
-/
import Derived.Test.YtecakcgkibemaaaGreatDoorCues
namespace Go.Proofs.YtecakcgkibemaaaGreatDoor
open Go.RowKit

def dupC (L : List SCue) (i : Nat) : Bool := match L[i]? with
  | some x => (L.take i).any (nmC x.Id)
  | none => false
def okC (L : List SCue) (i : Nat) : Bool := okAt vcuB ltCu L i && !dupC L i
def vcus (L : List SCue) : Bool := decide (L.length ≤ 32) && (List.range L.length).all (okC L)
section
variable {L : List SCue} {k j : Nat} {x y : SCue}
theorem vcus_len (h : vcus L = true) : L.length ≤ 32 := by simp only [vcus, Bool.and_eq_true, decide_eq_true_eq] at h; exact h.1
theorem vcus_chk (h : vcus L = true) : chk vcuB ltCu L = true := by
  simp only [vcus, Bool.and_eq_true] at h
  unfold chk
  rw [List.all_eq_true]
  intro i hi
  have := List.all_eq_true.1 h.2 i hi
  simp only [okC, Bool.and_eq_true] at this
  exact this.1
theorem vcus_at (h : vcus L = true) (hx : L[k]? = some x) : vcuB x = true := chk_all (vcus_chk h) hx
theorem vcus_bad (hx : L[k]? = some x) (h : vcuB x = false) : vcus L = false := by
  cases hv : vcus L
  · rfl
  · rw [vcus_at hv hx] at h; cases h
theorem vcus_rel (hx : L[j + 1]? = some x) (hy : L[j]? = some y) (h : ltCu y x = false) : vcus L = false := by
  cases hv : vcus L
  · rfl
  · rw [chk_rel (vcus_chk hv) hx hy] at h; cases h
theorem vcus_dup (hx : L[k]? = some x) (h : (L.take k).any (nmC x.Id) = true) : vcus L = false := by
  cases hv : vcus L
  · rfl
  · simp only [vcus, Bool.and_eq_true] at hv
    have := List.all_eq_true.1 hv.2 k (List.mem_range.2 (List.getElem?_eq_some_iff.1 hx).1)
    simp only [okC, dupC, hx, h] at this
    simp at this
theorem okC_step (h : (List.range k).all (okC L) = true) (h1 : okAt vcuB ltCu L k = true) (hx : L[k]? = some x) (h2 : (L.take k).any (nmC x.Id) = false) : (List.range (k + 1)).all (okC L) = true := by
  rw [List.range_succ, List.all_append, h]; simp [okC, h1, dupC, hx, h2]
theorem idx_in (h : (L.take k).any (nmC x.Id) = true) : ∃ j : Nat, j < k ∧ idxOf (nmC x.Id) L = j := by
  rcases idxOf_cases (nmC x.Id) L with ⟨_, hn⟩ | ⟨i, y, hi, hy, hp, _⟩
  · exfalso
    obtain ⟨y, hy, hp⟩ := List.any_eq_true.1 h
    rw [List.any_eq_false] at hn
    exact hn y (List.mem_of_mem_take hy) hp
  · refine ⟨i, ?_, hi⟩
    rcases Nat.lt_or_ge i k with h1 | h1
    · exact h1
    · exfalso
      obtain ⟨z, hz, hzp⟩ := List.any_eq_true.1 h
      obtain ⟨q, hq⟩ := List.mem_iff_getElem?.1 hz
      rw [List.getElem?_take] at hq
      split at hq
      · rename_i hqk
        unfold idxOf at hi
        cases hf : L.findIdx? (nmC x.Id) with
        | none => rw [hf] at hi; simp only at hi; omega
        | some r =>
          rw [hf] at hi
          simp only [Int.natCast_inj] at hi
          rw [List.findIdx?_eq_some_iff_getElem] at hf
          obtain ⟨_, _, hlow⟩ := hf
          have := hlow q (by omega)
          rw [List.getElem?_eq_some_iff] at hq
          obtain ⟨_, hq2⟩ := hq
          rw [hq2] at this
          exact this hzp
      · cases hq
theorem idx_at (hx : L[k]? = some x) (h : (L.take k).any (nmC x.Id) = false) : idxOf (nmC x.Id) L = k := by
  refine idxOf_hit hx ?_ (by simp [nmC])
  rw [List.all_eq_true]
  rw [List.any_eq_false] at h
  intro y hy
  have := h y hy
  simpa using this
end

set_option maxRecDepth 20000 in
set_option maxHeartbeats 8000000 in
theorem ValidCues_any (A : Option Addr) (n c : Nat) (L : List SCue) (w : World) (hr : Rd w A 6 cCue L) (hn : L.length = n) (hb : n ≤ 4194304) (hcap : n ≤ c) (hwf : ∀ x ∈ L, WfCue x) :
    Calls Tryz.prog 38 #[.slice A n c] w fun e w' => e = .returned (.bool (vcus L)) ∧ G w w' := by
  have Hn := Lib.hid hn
  have HR := Lib.hid hr
  have HW := Lib.hid hwf
  clear hr hn hwf
  by_cases hlim : n ≤ 32
  case neg =>
    have H := Lib.hid (show vcus L = false by unfold vcus; rw [Hn.out, decide_eq_false hlim]; simp)
    go_enter Tryz.func38, Tryz.ntmps38
    go_wp2
    go_ret
    exact ⟨ret_bool H.out.symm, G.refl _⟩
  go_enter Tryz.func38, Tryz.ntmps38
  go_wp2
  go_loopw [10] (fun i wr => ∃ (k : Nat), k ≤ n ∧ i = .int .i64 k ∧ (List.range k).all (okC L) = true ∧ G w wr) (fun i _ => n - (intOf i).toNat)
  case atStart => exact ⟨0, Nat.zero_le _, rfl, rfl, G.refl _⟩
  case round =>
    obtain ⟨k, hk, rfl, ha, hg⟩ := hrel
    have HA := Lib.hid ha
    have G0 := Lib.hid hg
    clear ha hg
    by_cases hlt : k < n
    · have hx0 : ∃ x, L[k]? = some x := ⟨_, List.getElem?_eq_getElem (by rw [Hn.out]; exact hlt)⟩
      obtain ⟨x, hx⟩ := hx0
      have HX := Lib.hid hx
      clear hx
      have KI := Lib.hid (fun (W : World) (g : G w W) => cueIndex_any A k c (L.take k) x.Id W ((HR.out.G g).take k) (by rw [List.length_take, Hn.out]; omega) (by omega))
      obtain ⟨b, o, x', rfl, hx, hc0, hc1, hc2, hc3, hc4, hc5⟩ := (HR.out.G G0.out).Cue (k := k) (by rw [Hn.out]; exact hlt)
      obtain rfl : x = x' := Option.some.inj (HX.out.symm.trans hx)
      have hwx := Lib.hid (HW.out x (List.mem_of_getElem? hx))
      clear hx
      have hlt2 : (k : Int) < (n : Int) := by omega
      have hk0 : 0 ≤ (k : Int) := by omega
      have ga0 := cellR (w := wr.alloc (.cells #[.string x.Id, .int .i64 x.Time, .int .i64 x.Length, .string x.Target, .int .i64 x.Action, .int .i64 x.Value] 49)) (a := ⟨wr.heap.size, 0, none⟩) (World.cell?_alloc_at _ _ _ _ rfl)
      have ga1 := cellR (w := wr.alloc (.cells #[.string x.Id, .int .i64 x.Time, .int .i64 x.Length, .string x.Target, .int .i64 x.Action, .int .i64 x.Value] 49)) (a := ⟨wr.heap.size, 1, none⟩) (World.cell?_alloc_at _ _ _ _ rfl)
      have ga2 := cellR (w := wr.alloc (.cells #[.string x.Id, .int .i64 x.Time, .int .i64 x.Length, .string x.Target, .int .i64 x.Action, .int .i64 x.Value] 49)) (a := ⟨wr.heap.size, 2, none⟩) (World.cell?_alloc_at _ _ _ _ rfl)
      have ga3 := cellR (w := wr.alloc (.cells #[.string x.Id, .int .i64 x.Time, .int .i64 x.Length, .string x.Target, .int .i64 x.Action, .int .i64 x.Value] 49)) (a := ⟨wr.heap.size, 3, none⟩) (World.cell?_alloc_at _ _ _ _ rfl)
      have ga4 := cellR (w := wr.alloc (.cells #[.string x.Id, .int .i64 x.Time, .int .i64 x.Length, .string x.Target, .int .i64 x.Action, .int .i64 x.Value] 49)) (a := ⟨wr.heap.size, 4, none⟩) (World.cell?_alloc_at _ _ _ _ rfl)
      have ga5 := cellR (w := wr.alloc (.cells #[.string x.Id, .int .i64 x.Time, .int .i64 x.Length, .string x.Target, .int .i64 x.Action, .int .i64 x.Value] 49)) (a := ⟨wr.heap.size, 5, none⟩) (World.cell?_alloc_at _ _ _ _ rfl)
      have hkc : (k : Int) ≤ (c : Int) := by omega
      have C1 := Lib.hid (fun (W : World) => ValidCue_any x W hwx.out)
      cases hv : vcuB x
      · rw [hv] at C1
        have H := Lib.hid (vcus_bad HX.out hv)
        go_wp2
        refine region_quiet_G (by kernel_rfl) (by kernel_rfl) ?_; (repeat (go_big_quiet_step (((first | (go_at_call 36; exact quiet_G (C1.out _))))))); refine wpQuiet_nil ?_
        intro w2 hg2
        clear ga0 ga1 ga2 ga3 ga4 ga5 
        go_wp2
        go_ret
        exact ⟨ret_bool H.out.symm, (G0.out.alloc _).trans hg2⟩
      · rw [hv] at C1
        have HV := Lib.hid hv
        clear hv
        cases k with
        | zero =>
          have HD := Lib.hid (show idxOf (nmC x.Id) (L.take 0) = -1 by simp [idxOf])
          rw [HD.out] at KI
          simp only [Nat.zero_mul, Nat.add_zero] at hc0 hc1 hc2 hc3 hc4 hc5
          have HS := Lib.hid (okC_step (k := 0) (L := L) rfl (okAt_first HX.out HV.out) HX.out (by simp))
          go_wp2
          refine region_quiet_G (by kernel_rfl) (by kernel_rfl) ?_; (repeat (go_big_quiet_step (((first | (go_at_call 36; exact quiet_G (C1.out _)) | (go_at_call 54; exact quiet_G (KI.out _ ((G0.out.alloc _).trans (G.regrown _ _ _))))))))); refine wpQuiet_nil ?_
          intro w2 hg2
          have G1 := Lib.hid ((G0.out.alloc _).trans hg2)
          clear hg2 ga0 ga1 ga2 ga3 ga4 ga5 
          go_wp2
          go_roundw
          case rel => exact ⟨1, by omega, rfl, HS.out, G1.out⟩
          case measure => simp [intOf]; omega
        | succ j =>
          obtain ⟨b', o', y, hA', hy, hd0, hd1, hd2, hd3, hd4, hd5⟩ := (HR.out.G G0.out).Cue (k := j) (by rw [Hn.out]; omega)
          obtain ⟨rfl, rfl⟩ : b = b' ∧ o = o' := by simpa using hA'
          have HY := Lib.hid hy
          have gd0 := cellR (w := wr.alloc (.cells #[.string x.Id, .int .i64 x.Time, .int .i64 x.Length, .string x.Target, .int .i64 x.Action, .int .i64 x.Value] 49)) (((G.refl wr).alloc _).cell hd0)
          have gd1 := cellR (w := wr.alloc (.cells #[.string x.Id, .int .i64 x.Time, .int .i64 x.Length, .string x.Target, .int .i64 x.Action, .int .i64 x.Value] 49)) (((G.refl wr).alloc _).cell hd1)
          have gd2 := cellR (w := wr.alloc (.cells #[.string x.Id, .int .i64 x.Time, .int .i64 x.Length, .string x.Target, .int .i64 x.Action, .int .i64 x.Value] 49)) (((G.refl wr).alloc _).cell hd2)
          have gd3 := cellR (w := wr.alloc (.cells #[.string x.Id, .int .i64 x.Time, .int .i64 x.Length, .string x.Target, .int .i64 x.Action, .int .i64 x.Value] 49)) (((G.refl wr).alloc _).cell hd3)
          have gd4 := cellR (w := wr.alloc (.cells #[.string x.Id, .int .i64 x.Time, .int .i64 x.Length, .string x.Target, .int .i64 x.Action, .int .i64 x.Value] 49)) (((G.refl wr).alloc _).cell hd4)
          have gd5 := cellR (w := wr.alloc (.cells #[.string x.Id, .int .i64 x.Time, .int .i64 x.Length, .string x.Target, .int .i64 x.Action, .int .i64 x.Value] 49)) (((G.refl wr).alloc _).cell hd5)
          have C2 := Lib.hid (fun W => compareCues_any y x W)
          obtain ⟨v, HVV⟩ : ∃ v, Hid (cmpC y x = v) := ⟨_, rfl⟩
          rw [HVV.out] at C2
          have hcv := cmpC_lt y x
          rw [HVV.out] at hcv
          clear hy hA' hd0 hd1 hd2 hd3 hd4 hd5
          cases hl : ltCu y x
          · rw [hl] at hcv
            have hcv2 : decide (0 ≤ v) = true := by simpa using hcv
            clear hcv
            have H := Lib.hid (vcus_rel HX.out HY.out hl)
            go_wp2
            refine region_quiet_G (by kernel_rfl) (by kernel_rfl) ?_; (repeat (go_big_quiet_step (((first | (go_at_call 36; exact quiet_G (C1.out _)) | (go_at_call 53; exact quiet_G (C2.out _))))))); refine wpQuiet_nil ?_
            intro w2 hg2
            clear ga0 ga1 ga2 ga3 ga4 ga5 gd0 gd1 gd2 gd3 gd4 gd5
            go_wp2
            go_ret
            exact ⟨ret_bool H.out.symm, (G0.out.alloc _).trans hg2⟩
          · rw [hl] at hcv
            have hcv2 : decide (0 ≤ v) = false := by simpa using hcv
            have HL := Lib.hid hl
            clear hcv hl
            rcases idxOf_cases (nmC x.Id) (L.take (j + 1)) with ⟨hi, hany⟩ | ⟨q, z, hi, _, _, hany⟩
            · rw [hi] at KI
              have HN := Lib.hid hany
              clear hi hany
              have HS := Lib.hid (okC_step HA.out (okAt_next HX.out HY.out HV.out HL.out) HX.out HN.out)
              go_wp2
              refine region_quiet_G (by kernel_rfl) (by kernel_rfl) ?_; (repeat (go_big_quiet_step (((first | (go_at_call 36; exact quiet_G (C1.out _)) | (go_at_call 53; exact quiet_G (C2.out _)) | (go_at_call 54; exact quiet_G (KI.out _ ((G0.out.alloc _).trans (G.regrown _ _ _))))))))); refine wpQuiet_nil ?_
              intro w2 hg2
              have G1 := Lib.hid ((G0.out.alloc _).trans hg2)
              clear hg2 ga0 ga1 ga2 ga3 ga4 ga5 gd0 gd1 gd2 gd3 gd4 gd5
              go_wp2
              go_roundw
              case rel => exact ⟨j + 1 + 1, by omega, by go_num, HS.out, G1.out⟩
              case measure => simp [intOf]; omega
            · rw [hi] at KI
              have HN := Lib.hid hany
              have hq0 : decide ((0 : Int) ≤ (q : Int)) = true := by simp
              clear hi hany
              have H := Lib.hid (vcus_dup HX.out HN.out)
              go_wp2
              refine region_quiet_G (by kernel_rfl) (by kernel_rfl) ?_; (repeat (go_big_quiet_step (((first | (go_at_call 36; exact quiet_G (C1.out _)) | (go_at_call 53; exact quiet_G (C2.out _)) | (go_at_call 54; exact quiet_G (KI.out _ ((G0.out.alloc _).trans (G.regrown _ _ _))))))))); refine wpQuiet_nil ?_
              intro w2 hg2
              clear ga0 ga1 ga2 ga3 ga4 ga5 gd0 gd1 gd2 gd3 gd4 gd5
              go_wp2
              go_ret
              exact ⟨ret_bool H.out.symm, (G0.out.alloc _).trans hg2⟩
    · have H := Lib.hid (show vcus L = true by unfold vcus; rw [Hn.out, show n = k by omega, HA.out]; simp; omega)
      go_wp2
      go_ret
      exact ⟨ret_bool H.out.symm, G0.out⟩

set_option maxRecDepth 20000 in
set_option maxHeartbeats 8000000 in
theorem l13Ok_any (A : Option Addr) (n c : Nat) (L : List SCue) (w : World) (hr : Rd w A 6 cCue L) (hn : L.length = n) (hb : n ≤ 4194304) (hwf : ∀ x ∈ L, WfCue x) :
    Calls Tryz.prog 26 #[.slice A n c] w fun e w' => e = .returned (.bool (vcus L)) ∧ G w w' := by
  have Hn := Lib.hid hn
  have HR := Lib.hid hr
  have HW := Lib.hid hwf
  clear hr hn hwf
  go_enter Tryz.func26, Tryz.ntmps26
  go_wp2
  go_loopw [3] (fun i wr => ∃ (k : Nat), k ≤ n ∧ i = .int .i64 k ∧ (List.range k).all (okC L) = true ∧ G w wr) (fun i _ => n - (intOf i).toNat)
  case atStart => exact ⟨0, Nat.zero_le _, rfl, rfl, G.refl _⟩
  case round =>
    obtain ⟨k, hk, rfl, ha, hg⟩ := hrel
    have HA := Lib.hid ha
    have G0 := Lib.hid hg
    clear ha hg
    by_cases hlt : k < n
    · have hx0 : ∃ x, L[k]? = some x := ⟨_, List.getElem?_eq_getElem (by rw [Hn.out]; exact hlt)⟩
      obtain ⟨x, hx⟩ := hx0
      have HX := Lib.hid hx
      clear hx
      have KI := Lib.hid (fun (W : World) (g : G w W) => l13Find_any A n c L x.Id W (HR.out.G g) Hn.out hb)
      obtain ⟨b, o, x', rfl, hx, hc0, hc1, hc2, hc3, hc4, hc5⟩ := (HR.out.G G0.out).Cue (k := k) (by rw [Hn.out]; exact hlt)
      obtain rfl : x = x' := Option.some.inj (HX.out.symm.trans hx)
      have hwx := Lib.hid (HW.out x (List.mem_of_getElem? hx))
      clear hx
      have hlt2 : (k : Int) < (n : Int) := by omega
      have hk0 : 0 ≤ (k : Int) := by omega
      have ga0 := cellR hc0
      have C1 := Lib.hid (fun (d : Nat) (os : Array Obj) => l13One_any x hwx.out b (o + k * 6) (Sort.grow (redrawn wr d) os) (cellR hc0 d os) (cellR hc1 d os) (cellR hc2 d os) (cellR hc3 d os) (cellR hc4 d os) (cellR hc5 d os))
      cases hv : vcuB x
      · rw [hv] at C1
        have H := Lib.hid (vcus_bad HX.out hv)
        go_wp2
        refine region_quiet_G (by kernel_rfl) (by kernel_rfl) ?_; (repeat (go_big_quiet_step (((first | (go_at_call 39; exact quiet_G (C1.out _ _))))))); refine wpQuiet_nil ?_
        intro w2 hg2
        clear ga0 
        go_wp2
        go_ret
        exact ⟨ret_bool H.out.symm, G0.out.trans hg2⟩
      · rw [hv] at C1
        have HV := Lib.hid hv
        clear hv
        cases k with
        | zero =>
          have HD := Lib.hid (idx_at HX.out (by simp))
          rw [HD.out] at KI
          simp only [Nat.zero_mul, Nat.add_zero] at hc0 hc1 hc2 hc3 hc4 hc5 ga0
          have HS := Lib.hid (okC_step (k := 0) (L := L) rfl (okAt_first HX.out HV.out) HX.out (by simp))
          go_wp2
          refine region_quiet_G (by kernel_rfl) (by kernel_rfl) ?_; (repeat (go_big_quiet_step (((first | (go_at_call 39; exact quiet_G (C1.out _ _)) | (go_at_call 40; exact quiet_G_same (KI.out _ (G0.out.trans (G.regrown _ _ _))))))))); refine wpQuiet_nil ?_
          intro w2 hg2
          have G1 := Lib.hid (G0.out.trans hg2)
          clear hg2 ga0 
          go_wp2
          go_roundw
          case rel => exact ⟨1, by omega, rfl, HS.out, G1.out⟩
          case measure => simp [intOf]; omega
        | succ j =>
          obtain ⟨b', o', y, hA', hy, hd0, hd1, hd2, hd3, hd4, hd5⟩ := (HR.out.G G0.out).Cue (k := j) (by rw [Hn.out]; omega)
          obtain ⟨rfl, rfl⟩ : b = b' ∧ o = o' := by simpa using hA'
          have HY := Lib.hid hy
          have gd0 := cellR hd0
          have C2 := Lib.hid (fun (d : Nat) (os : Array Obj) => l13Before_any y x b (o + j * 6) b (o + (j + 1) * 6) (Sort.grow (redrawn wr d) os) (cellR hd0 d os) (cellR hd1 d os) (cellR hc0 d os) (cellR hc1 d os))
          clear hy hA' hd0 hd1 hd2 hd3 hd4 hd5
          cases hany : (L.take (j + 1)).any (nmC x.Id)
          · have HD := Lib.hid (idx_at HX.out hany)
            rw [HD.out] at KI
            have HN := Lib.hid hany
            clear hany
            cases hl : ltCu y x
            · rw [hl] at C2
              have H := Lib.hid (vcus_rel HX.out HY.out hl)
              go_wp2
              refine region_quiet_G (by kernel_rfl) (by kernel_rfl) ?_; (repeat (go_big_quiet_step (((first | (go_at_call 39; exact quiet_G (C1.out _ _)) | (go_at_call 41; exact quiet_G (C2.out _ _)) | (go_at_call 40; exact quiet_G_same (KI.out _ (G0.out.trans (G.regrown _ _ _))))))))); refine wpQuiet_nil ?_
              intro w2 hg2
              clear ga0 gd0
              go_wp2
              go_ret
              exact ⟨ret_bool H.out.symm, G0.out.trans hg2⟩
            · rw [hl] at C2
              have HL := Lib.hid hl
              clear hl
              have HS := Lib.hid (okC_step HA.out (okAt_next HX.out HY.out HV.out HL.out) HX.out HN.out)
              go_wp2
              refine region_quiet_G (by kernel_rfl) (by kernel_rfl) ?_; (repeat (go_big_quiet_step (((first | (go_at_call 39; exact quiet_G (C1.out _ _)) | (go_at_call 41; exact quiet_G (C2.out _ _)) | (go_at_call 40; exact quiet_G_same (KI.out _ (G0.out.trans (G.regrown _ _ _))))))))); refine wpQuiet_nil ?_
              intro w2 hg2
              have G1 := Lib.hid (G0.out.trans hg2)
              clear hg2 ga0 gd0
              go_wp2
              go_roundw
              case rel => exact ⟨j + 1 + 1, by omega, by go_num, HS.out, G1.out⟩
              case measure => simp [intOf]; omega
          · obtain ⟨q, hqk, hq⟩ := idx_in hany
            rw [hq] at KI
            have HN := Lib.hid hany
            have hq2 : decide ((q : Int) < (j : Int) + 1) = true := by simp; omega
            clear hq hany
            have H := Lib.hid (vcus_dup HX.out HN.out)
            go_wp2
            refine region_quiet_G (by kernel_rfl) (by kernel_rfl) ?_; (repeat (go_big_quiet_step (((first | (go_at_call 39; exact quiet_G (C1.out _ _)) | (go_at_call 40; exact quiet_G_same (KI.out _ (G0.out.trans (G.regrown _ _ _))))))))); refine wpQuiet_nil ?_
            intro w2 hg2
            clear ga0 gd0
            go_wp2
            go_ret
            exact ⟨ret_bool H.out.symm, G0.out.trans hg2⟩
    · have H := Lib.hid (show vcus L = decide (n ≤ 32) by unfold vcus; rw [Hn.out, show (List.range n).all (okC L) = true by rw [show n = k by omega]; exact HA.out]; simp)
      go_wp2
      go_ret
      exact ⟨ret_bool (by rw [H.out]; simp; omega), G0.out⟩
end Go.Proofs.YtecakcgkibemaaaGreatDoor
