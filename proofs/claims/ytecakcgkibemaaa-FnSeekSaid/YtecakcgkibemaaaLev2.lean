/-
  Walks: the level of a target, by the reference's text.
-/
import Derived.Test.YtecakcgkibemaaaLev
import Derived.Deep.RegionHeld3
namespace Go.Proofs.Ytecakcgkibemaaa
open Go.RowKit

set_option maxRecDepth 20000 in
set_option maxHeartbeats 4000000 in
theorem l13Level_any (A : Option Addr) (n c : Nat) (L : List SCue) (tg : ByteArray) (time : Int) (w : World) (hr : Rd w A 6 cCue L) (hn : L.length = n) (hv : vcus L = true) (ht0 : 0 ≤ time) (ht1 : time ≤ 7200000) :
    Calls Try.prog 25 #[.slice A n c, .string tg, .int .i64 time] w fun e w' => e = .returned (.int .i64 (lvl L tg time n)) ∧ G w w' := by
  have hn32 := vcus_len hv
  rw [hn] at hn32
  have Hn := Lib.hid hn
  have HR := Lib.hid hr
  have HV := Lib.hid hv
  clear hr hn hv
  go_enter Try.func25, Try.ntmps25
  go_wp2
  go_loopw [7, 8] (fun v i wr => ∃ (k : Nat), k ≤ n ∧ i = .int .i64 k ∧ v = .int .i64 (lvl L tg time k) ∧ Hid (G w wr)) (fun _ i _ => n - (intOf i).toNat)
  case atStart => exact ⟨0, Nat.zero_le _, rfl, rfl, Lib.hid (G.refl _)⟩
  case round =>
    obtain ⟨k, hk, rfl, rfl, G0⟩ := hrel
    have hlb := lvl_bd HV.out tg time k
    obtain ⟨lev, HLV⟩ : ∃ lev, Hid (lvl L tg time k = lev) := ⟨_, rfl⟩
    rw [HLV.out] at hlb ⊢
    by_cases hlt : k < n
    · obtain ⟨b, o, x, rfl, hx, hc0, hc1, hc2, hc3, hc4, hc5⟩ := (HR.out.G G0.out).Cue (k := k) (by rw [Hn.out]; exact hlt)
      have hxb := vcuB_bd (vcus_at HV.out hx)
      obtain ⟨xb0, xb1, xb2, xb3, xb4, xb5, -, -, xb6⟩ := hxb
      have HC := Lib.hid (show lvl L tg time (k + 1) = lvlCue x (L.drop (k + 1)) tg time lev by rw [lvl_succ hx, HLV.out])
      have HED := Lib.hid (fun (h : x.Time ≤ time) => lvlEnd_bd (tg := tg) HV.out hx h)
      have HRD := Lib.hid ((HR.out.G G0.out).drop (k + 1))
      have HRl := Lib.hid (show (L.drop (k + 1)).length = n - (k + 1) by rw [List.length_drop, Hn.out])
      obtain ⟨R, HRe⟩ : ∃ R, Hid (L.drop (k + 1) = R) := ⟨_, rfl⟩
      rw [HRe.out] at HC HED HRD HRl
      clear hx
      cases hq : eqS x.Target tg
      · have hd : (x.Target.toList == tg.toList) = false := hq
        have HN := Lib.hid (show lvl L tg time (k + 1) = lev by rw [HC.out, lvlCue_other hq])
        clear hq
        go_wp2
        go_roundw
        case rel => exact ⟨k + 1, by omega, by go_num, by rw [HN.out], G0⟩
        case measure => simp [intOf]; omega
      have hd : (x.Target.toList == tg.toList) = true := hq
      have HQ := Lib.hid hq
      clear hq
      by_cases htime : x.Time ≤ time
      case neg =>
        have htl : time < x.Time := by omega
        have HN := Lib.hid (show lvl L tg time (k + 1) = lev by rw [HC.out, lvlCue_late HQ.out htl])
        clear htime
        go_wp2
        go_roundw
        case rel => exact ⟨k + 1, by omega, by go_num, by rw [HN.out], G0⟩
        case measure => simp [intOf]; omega
      have hed := HED.out htime
      have HRk := Lib.hid (fun i => show R[i]? = L[k + 1 + i]? by rw [← HRe.out, List.getElem?_drop])
      go_wp2
      obtain ⟨wo, rfl⟩ : ∃ wo : World, wo = wr := ⟨_, rfl⟩
      go_loopw [10, 11] (fun v i wr => ∃ (j : Nat), k + 1 ≤ j ∧ j ≤ n ∧ i = .int .i64 j ∧ v = .int .i64 time ∧ Hid ((R.take (j - (k + 1))).all (fun z => !eqS z.Target tg) = true) ∧ Hid (G wo wr)) (fun _ i _ => n - (intOf i).toNat)
      case atStart => exact ⟨k + 1, Nat.le_refl _, by omega, by go_num, rfl, Lib.hid (by simp), Lib.hid (G.refl _)⟩
      case round =>
        obtain ⟨j, hj1, hj2, rfl, rfl, HA, GI⟩ := hrel
        by_cases hjl : j < n
        · obtain ⟨b', o', y, he', hy, hy0, hy1, hy2, hy3, hy4, hy5⟩ := (HR.out.G (G0.out.trans GI.out)).Cue (k := j) (by rw [Hn.out]; exact hjl)
          cases he'
          have HY := Lib.hid (show R[j - (k + 1)]? = some y by rw [HRk.out, show k + 1 + (j - (k + 1)) = j by omega]; exact hy)
          clear hy
          cases hq2 : eqS y.Target tg
          · have hdy : (y.Target.toList == tg.toList) = false := hq2
            have HA2 := Lib.hid (all_snoc (p := fun z => !eqS z.Target tg) HY.out HA.out (by simp [hq2]))
            rw [show j - (k + 1) + 1 = j + 1 - (k + 1) by omega] at HA2
            clear hq2
            go_wp2
            go_roundw
            case rel => exact ⟨j + 1, by omega, by omega, by go_num, rfl, HA2, GI⟩
            case measure => simp [intOf]; omega
          · have hdy : (y.Target.toList == tg.toList) = true := hq2
            have HEm := Lib.hid (find_hit_end (time := time) HY.out HA.out hq2)
            clear hq2
            have G2 := Lib.hid (G0.out.trans GI.out)
            replace hc0 := GI.out.cell hc0
            replace hc1 := GI.out.cell hc1
            replace hc2 := GI.out.cell hc2
            replace hc3 := GI.out.cell hc3
            replace hc4 := GI.out.cell hc4
            replace hc5 := GI.out.cell hc5
            have hd1 := hc1
            have hd2 := hc2
            have hd4 := hc4
            have hd5 := hc5
            by_cases htm : time < y.Time
            · have HE := Lib.hid (show lvlEnd R tg time = time by rw [HEm.out]; omega)
              have hed0 : x.Time ≤ time ∧ time ≤ time := ⟨htime, Int.le_refl _⟩
              have xe : 0 ≤ time ∧ time ≤ 7200000 := by omega
              have gc1 := cellR hd1
              have gc2 := cellR hd2
              have gc4 := cellR hd4
              have xw : IntKind.i64.wrap (x.Time + x.Length) = x.Time + x.Length := IntWalk.i64_in _ (by omega)
              have GQ := Lib.hid G2.out
              by_cases ha : x.Action = 2
              · have had : (x.Action == 2) = true := by simp [ha]
                have xl := xb6 ha
                by_cases he : time < x.Time + x.Length
                · skip
                  have hm := lvl_mul (v := x.Value) (lev := lev) (e := time) (t := x.Time) (l := x.Length) ⟨xb2, xb3⟩ hlb (by omega) (by omega) (by omega)
                  obtain ⟨m, HM⟩ : ∃ m, Hid ((x.Value - lev) * (time - x.Time) = m) := ⟨_, rfl⟩
                  have hm2 := HM.out
                  rw [hm2] at hm
                  have nb := near_share (d := x.Value - lev) (y := time - x.Time) (c := x.Length) (by omega) (by omega) (by omega)
                  rw [hm2] at nb
                  have HN := Lib.hid (show lvl L tg time (k + 1) = lev + near m x.Length by rw [HC.out, lvlCue_fade HQ.out htime ha HE.out he, HM.out])
                  obtain ⟨p, HP⟩ : ∃ p, Hid (near m x.Length = p) := ⟨_, rfl⟩
                  have K4 := Lib.hid (fun W => l01Div_any m x.Length (by omega) (by omega) (by omega) (by omega) W)
                  rw [HP.out] at nb HN K4
                  have hpb : 0 ≤ lev + p ∧ lev + p ≤ 1000 := by
                    rcases Int.le_total 0 (x.Value - lev) with h | h
                    · have := nb.1 h; omega
                    · have := nb.2 h; omega
                  have gd : decide (time < x.Time + x.Length) = true := by simpa using he
                  clear ha
                  go_wp2
                  refine region_quiet_G (by kernel_rfl) (by kernel_rfl) ?_; (repeat (go_big_quiet_step ((fail)))); refine wpQuiet_nil ?_
                  intro w6 g6
                  have G6 := Lib.hid (GQ.out.trans g6)
                  have hd1 := g6.cell hd1
                  have hd2 := g6.cell hd2
                  have hd5 := g6.cell hd5
                  have gc1 := cellR hd1
                  have gc2 := cellR hd2
                  have gc5 := cellR hd5
                  have w1 : IntKind.i64.wrap (x.Value - lev) = x.Value - lev := IntWalk.i64_in _ (by omega)
                  have w2 : IntKind.i64.wrap (time - x.Time) = time - x.Time := IntWalk.i64_in _ (by omega)
                  have w3 : IntKind.i64.wrap m = m := IntWalk.i64_in _ (by omega)
                  have w4 : IntKind.i64.wrap (lev + p) = lev + p := IntWalk.i64_in _ (by omega)
                  clear g6 nb hpb gd xw
                  go_wp2
                  refine region_quiet_G (by kernel_rfl) (by kernel_rfl) ?_; (repeat (go_big_quiet_step (((go_at_call 41; (try simp only [w1, w2, hm2, w3]); exact quiet_G_same (K4.out _)))))); refine wpQuiet_nil ?_
                  intro w7 g7
                  have G7 := Lib.hid (G6.out.trans g7)
                  clear g7 gc1 gc2 gc5 hd1 hd2 hd5 w1 w2 w3 w4 hm2
                  go_wp2
                  go_roundw
                  case rel => exact ⟨k + 1, by omega, by go_num, by rw [HN.out], G7⟩
                  case measure => simp [intOf]; omega
                · have he2 : x.Time + x.Length ≤ time := by omega
                  have gd : decide (time < x.Time + x.Length) = false := by simpa using he2
                  have HN := Lib.hid (show lvl L tg time (k + 1) = x.Value by rw [HC.out, lvlCue_done HQ.out htime ha HE.out he2])
                  clear he ha
                  go_wp2
                  refine region_quiet_G (by kernel_rfl) (by kernel_rfl) ?_; (repeat (go_big_quiet_step ((fail)))); refine wpQuiet_nil ?_
                  intro w6 g6
                  have G6 := Lib.hid (GQ.out.trans g6)
                  have hd5 := g6.cell hd5
                  clear g6
                  go_wp2
                  go_roundw
                  case rel => exact ⟨k + 1, by omega, by go_num, by rw [HN.out], G6⟩
                  case measure => simp [intOf]; omega
              · have had : (x.Action == 2) = false := by simp [ha]
                have HN := Lib.hid (show lvl L tg time (k + 1) = x.Value by rw [HC.out, lvlCue_set HQ.out htime ha])
                clear ha
                go_wp2
                refine region_quiet_G (by kernel_rfl) (by kernel_rfl) ?_; (repeat (go_big_quiet_step ((fail)))); refine wpQuiet_nil ?_
                intro w6 g6
                have G6 := Lib.hid (GQ.out.trans g6)
                have hd5 := g6.cell hd5
                clear g6
                go_wp2
                go_roundw
                case rel => exact ⟨k + 1, by omega, by go_num, by rw [HN.out], G6⟩
                case measure => simp [intOf]; omega
            · have HE := Lib.hid (show lvlEnd R tg time = y.Time by rw [HEm.out]; omega)
              have hed0 : x.Time ≤ y.Time ∧ y.Time ≤ time := by have := HED.out htime; rw [HE.out] at this; exact this
              have htm2 : y.Time ≤ time := by omega
              clear htm
              have xe : 0 ≤ y.Time ∧ y.Time ≤ 7200000 := by omega
              have gc1 := cellR hd1
              have gc2 := cellR hd2
              have gc4 := cellR hd4
              have xw : IntKind.i64.wrap (x.Time + x.Length) = x.Time + x.Length := IntWalk.i64_in _ (by omega)
              have GQ := Lib.hid G2.out
              by_cases ha : x.Action = 2
              · have had : (x.Action == 2) = true := by simp [ha]
                have xl := xb6 ha
                by_cases he : y.Time < x.Time + x.Length
                · skip
                  have hm := lvl_mul (v := x.Value) (lev := lev) (e := y.Time) (t := x.Time) (l := x.Length) ⟨xb2, xb3⟩ hlb (by omega) (by omega) (by omega)
                  obtain ⟨m, HM⟩ : ∃ m, Hid ((x.Value - lev) * (y.Time - x.Time) = m) := ⟨_, rfl⟩
                  have hm2 := HM.out
                  rw [hm2] at hm
                  have nb := near_share (d := x.Value - lev) (y := y.Time - x.Time) (c := x.Length) (by omega) (by omega) (by omega)
                  rw [hm2] at nb
                  have HN := Lib.hid (show lvl L tg time (k + 1) = lev + near m x.Length by rw [HC.out, lvlCue_fade HQ.out htime ha HE.out he, HM.out])
                  obtain ⟨p, HP⟩ : ∃ p, Hid (near m x.Length = p) := ⟨_, rfl⟩
                  have K4 := Lib.hid (fun W => l01Div_any m x.Length (by omega) (by omega) (by omega) (by omega) W)
                  rw [HP.out] at nb HN K4
                  have hpb : 0 ≤ lev + p ∧ lev + p ≤ 1000 := by
                    rcases Int.le_total 0 (x.Value - lev) with h | h
                    · have := nb.1 h; omega
                    · have := nb.2 h; omega
                  have gd : decide (y.Time < x.Time + x.Length) = true := by simpa using he
                  clear ha
                  go_wp2
                  refine region_quiet_G (by kernel_rfl) (by kernel_rfl) ?_; (repeat (go_big_quiet_step ((fail)))); refine wpQuiet_nil ?_
                  intro w6 g6
                  have G6 := Lib.hid (GQ.out.trans g6)
                  have hd1 := g6.cell hd1
                  have hd2 := g6.cell hd2
                  have hd5 := g6.cell hd5
                  have gc1 := cellR hd1
                  have gc2 := cellR hd2
                  have gc5 := cellR hd5
                  have w1 : IntKind.i64.wrap (x.Value - lev) = x.Value - lev := IntWalk.i64_in _ (by omega)
                  have w2 : IntKind.i64.wrap (y.Time - x.Time) = y.Time - x.Time := IntWalk.i64_in _ (by omega)
                  have w3 : IntKind.i64.wrap m = m := IntWalk.i64_in _ (by omega)
                  have w4 : IntKind.i64.wrap (lev + p) = lev + p := IntWalk.i64_in _ (by omega)
                  clear g6 nb hpb gd xw
                  go_wp2
                  refine region_quiet_G (by kernel_rfl) (by kernel_rfl) ?_; (repeat (go_big_quiet_step (((go_at_call 41; (try simp only [w1, w2, hm2, w3]); exact quiet_G_same (K4.out _)))))); refine wpQuiet_nil ?_
                  intro w7 g7
                  have G7 := Lib.hid (G6.out.trans g7)
                  clear g7 gc1 gc2 gc5 hd1 hd2 hd5 w1 w2 w3 w4 hm2
                  go_wp2
                  go_roundw
                  case rel => exact ⟨k + 1, by omega, by go_num, by rw [HN.out], G7⟩
                  case measure => simp [intOf]; omega
                · have he2 : x.Time + x.Length ≤ y.Time := by omega
                  have gd : decide (y.Time < x.Time + x.Length) = false := by simpa using he2
                  have HN := Lib.hid (show lvl L tg time (k + 1) = x.Value by rw [HC.out, lvlCue_done HQ.out htime ha HE.out he2])
                  clear he ha
                  go_wp2
                  refine region_quiet_G (by kernel_rfl) (by kernel_rfl) ?_; (repeat (go_big_quiet_step ((fail)))); refine wpQuiet_nil ?_
                  intro w6 g6
                  have G6 := Lib.hid (GQ.out.trans g6)
                  have hd5 := g6.cell hd5
                  clear g6
                  go_wp2
                  go_roundw
                  case rel => exact ⟨k + 1, by omega, by go_num, by rw [HN.out], G6⟩
                  case measure => simp [intOf]; omega
              · have had : (x.Action == 2) = false := by simp [ha]
                have HN := Lib.hid (show lvl L tg time (k + 1) = x.Value by rw [HC.out, lvlCue_set HQ.out htime ha])
                clear ha
                go_wp2
                refine region_quiet_G (by kernel_rfl) (by kernel_rfl) ?_; (repeat (go_big_quiet_step ((fail)))); refine wpQuiet_nil ?_
                intro w6 g6
                have G6 := Lib.hid (GQ.out.trans g6)
                have hd5 := g6.cell hd5
                clear g6
                go_wp2
                go_roundw
                case rel => exact ⟨k + 1, by omega, by go_num, by rw [HN.out], G6⟩
                case measure => simp [intOf]; omega
        · have HE := Lib.hid (show lvlEnd R tg time = time from find_none_end (all_take_all (by rw [HRl.out]; omega) HA.out))
          have hed0 : x.Time ≤ time ∧ time ≤ time := ⟨htime, Int.le_refl _⟩
          have G2 := Lib.hid (G0.out.trans GI.out)
          replace hc0 := GI.out.cell hc0
          replace hc1 := GI.out.cell hc1
          replace hc2 := GI.out.cell hc2
          replace hc3 := GI.out.cell hc3
          replace hc4 := GI.out.cell hc4
          replace hc5 := GI.out.cell hc5
          have hd1 := hc1
          have hd2 := hc2
          have hd4 := hc4
          have hd5 := hc5
          have xe : 0 ≤ time ∧ time ≤ 7200000 := by omega
          have gc1 := cellR hd1
          have gc2 := cellR hd2
          have gc4 := cellR hd4
          have xw : IntKind.i64.wrap (x.Time + x.Length) = x.Time + x.Length := IntWalk.i64_in _ (by omega)
          have GQ := Lib.hid G2.out
          by_cases ha : x.Action = 2
          · have had : (x.Action == 2) = true := by simp [ha]
            have xl := xb6 ha
            by_cases he : time < x.Time + x.Length
            · skip
              have hm := lvl_mul (v := x.Value) (lev := lev) (e := time) (t := x.Time) (l := x.Length) ⟨xb2, xb3⟩ hlb (by omega) (by omega) (by omega)
              obtain ⟨m, HM⟩ : ∃ m, Hid ((x.Value - lev) * (time - x.Time) = m) := ⟨_, rfl⟩
              have hm2 := HM.out
              rw [hm2] at hm
              have nb := near_share (d := x.Value - lev) (y := time - x.Time) (c := x.Length) (by omega) (by omega) (by omega)
              rw [hm2] at nb
              have HN := Lib.hid (show lvl L tg time (k + 1) = lev + near m x.Length by rw [HC.out, lvlCue_fade HQ.out htime ha HE.out he, HM.out])
              obtain ⟨p, HP⟩ : ∃ p, Hid (near m x.Length = p) := ⟨_, rfl⟩
              have K4 := Lib.hid (fun W => l01Div_any m x.Length (by omega) (by omega) (by omega) (by omega) W)
              rw [HP.out] at nb HN K4
              have hpb : 0 ≤ lev + p ∧ lev + p ≤ 1000 := by
                rcases Int.le_total 0 (x.Value - lev) with h | h
                · have := nb.1 h; omega
                · have := nb.2 h; omega
              have gd : decide (time < x.Time + x.Length) = true := by simpa using he
              clear ha
              go_wp2
              refine region_quiet_G (by kernel_rfl) (by kernel_rfl) ?_; (repeat (go_big_quiet_step ((fail)))); refine wpQuiet_nil ?_
              intro w6 g6
              have G6 := Lib.hid (GQ.out.trans g6)
              have hd1 := g6.cell hd1
              have hd2 := g6.cell hd2
              have hd5 := g6.cell hd5
              have gc1 := cellR hd1
              have gc2 := cellR hd2
              have gc5 := cellR hd5
              have w1 : IntKind.i64.wrap (x.Value - lev) = x.Value - lev := IntWalk.i64_in _ (by omega)
              have w2 : IntKind.i64.wrap (time - x.Time) = time - x.Time := IntWalk.i64_in _ (by omega)
              have w3 : IntKind.i64.wrap m = m := IntWalk.i64_in _ (by omega)
              have w4 : IntKind.i64.wrap (lev + p) = lev + p := IntWalk.i64_in _ (by omega)
              clear g6 nb hpb gd xw
              go_wp2
              refine region_quiet_G (by kernel_rfl) (by kernel_rfl) ?_; (repeat (go_big_quiet_step (((go_at_call 41; (try simp only [w1, w2, hm2, w3]); exact quiet_G_same (K4.out _)))))); refine wpQuiet_nil ?_
              intro w7 g7
              have G7 := Lib.hid (G6.out.trans g7)
              clear g7 gc1 gc2 gc5 hd1 hd2 hd5 w1 w2 w3 w4 hm2
              go_wp2
              go_roundw
              case rel => exact ⟨k + 1, by omega, by go_num, by rw [HN.out], G7⟩
              case measure => simp [intOf]; omega
            · have he2 : x.Time + x.Length ≤ time := by omega
              have gd : decide (time < x.Time + x.Length) = false := by simpa using he2
              have HN := Lib.hid (show lvl L tg time (k + 1) = x.Value by rw [HC.out, lvlCue_done HQ.out htime ha HE.out he2])
              clear he ha
              go_wp2
              refine region_quiet_G (by kernel_rfl) (by kernel_rfl) ?_; (repeat (go_big_quiet_step ((fail)))); refine wpQuiet_nil ?_
              intro w6 g6
              have G6 := Lib.hid (GQ.out.trans g6)
              have hd5 := g6.cell hd5
              clear g6
              go_wp2
              go_roundw
              case rel => exact ⟨k + 1, by omega, by go_num, by rw [HN.out], G6⟩
              case measure => simp [intOf]; omega
          · have had : (x.Action == 2) = false := by simp [ha]
            have HN := Lib.hid (show lvl L tg time (k + 1) = x.Value by rw [HC.out, lvlCue_set HQ.out htime ha])
            clear ha
            go_wp2
            refine region_quiet_G (by kernel_rfl) (by kernel_rfl) ?_; (repeat (go_big_quiet_step ((fail)))); refine wpQuiet_nil ?_
            intro w6 g6
            have G6 := Lib.hid (GQ.out.trans g6)
            have hd5 := g6.cell hd5
            clear g6
            go_wp2
            go_roundw
            case rel => exact ⟨k + 1, by omega, by go_num, by rw [HN.out], G6⟩
            case measure => simp [intOf]; omega
    · obtain rfl : k = n := by omega
      go_wp2
      go_ret
      exact ⟨ret_int HLV.out.symm, G0.out⟩
end Go.Proofs.Ytecakcgkibemaaa
