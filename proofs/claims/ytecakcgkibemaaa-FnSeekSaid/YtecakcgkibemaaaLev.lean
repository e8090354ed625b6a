/-
  Walks: the level of a target, by the program's text.
-/
import Derived.Test.YtecakcgkibemaaaLevM
import Derived.Test.YtecakcgkibemaaaNear
import Derived.Test.YtecakcgkibemaaaEnd
namespace Go.Proofs.Ytecakcgkibemaaa
open Go.RowKit

set_option maxRecDepth 20000 in
set_option maxHeartbeats 4000000 in
theorem levelAt_any (A : Option Addr) (n c : Nat) (L : List SCue) (tg : ByteArray) (time : Int) (w : World) (hr : Rd w A 6 cCue L) (hn : L.length = n) (hcap : n ≤ c) (hv : vcus L = true) (ht0 : 0 ≤ time) (ht1 : time ≤ 7200000) :
    Calls Try.prog 22 #[.slice A n c, .string tg, .int .i64 time] w fun e w' => e = .returned (.int .i64 (lvl L tg time n)) ∧ G w w' := by
  have hn32 := vcus_len hv
  rw [hn] at hn32
  have Hn := Lib.hid hn
  have HR := Lib.hid hr
  have HV := Lib.hid hv
  clear hr hn hv
  go_enter Try.func22, Try.ntmps22
  go_wp2
  go_loopw [7, 15] (fun v i wr => ∃ (k : Nat), k ≤ n ∧ i = .int .i64 k ∧ v = .int .i64 (lvl L tg time k) ∧ Hid (G w wr)) (fun _ i _ => n - (intOf i).toNat)
  case atStart => exact ⟨0, Nat.zero_le _, rfl, rfl, Lib.hid (G.refl _)⟩
  case round =>
    obtain ⟨k, hk, rfl, rfl, G0⟩ := hrel
    have hlb := lvl_bd HV.out tg time k
    obtain ⟨lev, HLV⟩ : ∃ lev, Hid (lvl L tg time k = lev) := ⟨_, rfl⟩
    rw [HLV.out] at hlb ⊢
    by_cases hlt : k < n
    · obtain ⟨b, o, x, rfl, hx, hc0, hc1, hc2, hc3, hc4, hc5⟩ := (HR.out.G G0.out).Cue (k := k) (by rw [Hn.out]; exact hlt)
      have hxb := vcuB_bd (vcus_at HV.out hx)
      obtain ⟨xb0, xb1, xb2, xb3, xb4, xb5, -, -, xb6⟩ := hxb
      have HC := Lib.hid (show lvl L tg time (k + 1) = lvlCue x (L.drop (k + 1)) tg time lev by rw [lvl_succ hx, HLV.out])
      have HED := Lib.hid (fun (h : x.Time ≤ time) => lvlEnd_bd (tg := tg) HV.out hx h)
      have HRD := Lib.hid ((HR.out.G G0.out).drop (k + 1))
      have HRl := Lib.hid (show (L.drop (k + 1)).length = n - (k + 1) by rw [List.length_drop, Hn.out])
      obtain ⟨R, HRe⟩ : ∃ R, Hid (L.drop (k + 1) = R) := ⟨_, rfl⟩
      rw [HRe.out] at HC HED HRD HRl
      clear hx
      cases hq : eqS x.Target tg
      · have hd : (x.Target.toList == tg.toList) = false := hq
        have HN := Lib.hid (show lvl L tg time (k + 1) = lev by rw [HC.out, lvlCue_other hq])
        clear hq
        go_wp2
        go_roundw
        case rel => exact ⟨k + 1, by omega, by go_num, by rw [HN.out], Lib.hid (G0.out.alloc _)⟩
        case measure => simp [intOf]; omega
      have hd : (x.Target.toList == tg.toList) = true := hq
      have HQ := Lib.hid hq
      clear hq
      by_cases htime : x.Time ≤ time
      case neg =>
        have htl : time < x.Time := by omega
        have HN := Lib.hid (show lvl L tg time (k + 1) = lev by rw [HC.out, lvlCue_late HQ.out htl])
        clear htime
        go_wp2
        go_roundw
        case rel => exact ⟨k + 1, by omega, by go_num, by rw [HN.out], Lib.hid (G0.out.alloc _)⟩
        case measure => simp [intOf]; omega
      have hed := HED.out htime
      have GB := Lib.hid ((G.refl wr).alloc (.cells #[.string x.Id, .int .i64 x.Time, .int .i64 x.Length, .string x.Target, .int .i64 x.Action, .int .i64 x.Value] 44))
      have hd1 : (wr.alloc (.cells #[.string x.Id, .int .i64 x.Time, .int .i64 x.Length, .string x.Target, .int .i64 x.Action, .int .i64 x.Value] 44)).cell? ⟨wr.heap.size, 1, none⟩ = some (.int .i64 x.Time) := (World.cell?_alloc_at _ _ _ 1 rfl).trans rfl
      have hd2 : (wr.alloc (.cells #[.string x.Id, .int .i64 x.Time, .int .i64 x.Length, .string x.Target, .int .i64 x.Action, .int .i64 x.Value] 44)).cell? ⟨wr.heap.size, 2, none⟩ = some (.int .i64 x.Length) := (World.cell?_alloc_at _ _ _ 2 rfl).trans rfl
      have hd4 : (wr.alloc (.cells #[.string x.Id, .int .i64 x.Time, .int .i64 x.Length, .string x.Target, .int .i64 x.Action, .int .i64 x.Value] 44)).cell? ⟨wr.heap.size, 4, none⟩ = some (.int .i64 x.Action) := (World.cell?_alloc_at _ _ _ 4 rfl).trans rfl
      have hd5 : (wr.alloc (.cells #[.string x.Id, .int .i64 x.Time, .int .i64 x.Length, .string x.Target, .int .i64 x.Action, .int .i64 x.Value] 44)).cell? ⟨wr.heap.size, 5, none⟩ = some (.int .i64 x.Value) := (World.cell?_alloc_at _ _ _ 5 rfl).trans rfl
      have HRD2 := Lib.hid (HRD.out.G GB.out)
      have G1 := Lib.hid (G0.out.trans GB.out)
      by_cases hcc : c = k + 1
      · have HE := Lib.hid (show lvlEnd R tg time = time from find_none_end (by rw [List.length_eq_zero_iff.1 (HRl.out.trans (by omega))]; rfl))
        have hn1 : n ≤ k + 1 := by omega
        subst hcc
        go_wp2
        go_loop [10, 36] (fun v i => v = .int .i64 time ∧ i = .int .i64 0) (fun _ _ => 0)
        case atStart => exact ⟨rfl, rfl⟩
        case round =>
          obtain ⟨rfl, rfl⟩ := hrel
          have hed0 : x.Time ≤ time ∧ time ≤ time := ⟨htime, Int.le_refl _⟩
          have xe : 0 ≤ time ∧ time ≤ 7200000 := by omega
          by_cases ha : x.Action = 2
          · have had : (x.Action == 2) = true := by simp [ha]
            have xl := xb6 ha
            by_cases he : time < x.Time + x.Length
            · skip
              have hm := lvl_mul (v := x.Value) (lev := lev) (e := time) (t := x.Time) (l := x.Length) ⟨xb2, xb3⟩ hlb (by omega) (by omega) (by omega)
              obtain ⟨m, HM⟩ : ∃ m, Hid ((x.Value - lev) * (time - x.Time) = m) := ⟨_, rfl⟩
              rw [HM.out] at hm
              have nb := near_share (d := x.Value - lev) (y := time - x.Time) (c := x.Length) (by omega) (by omega) (by omega)
              rw [HM.out] at nb
              have K4 := Lib.hid (fun W => nearest_any m x.Length (by omega) (by omega) (by omega) (by omega) W)
              have HN := Lib.hid (show lvl L tg time (k + 1) = lev + near m x.Length by rw [HC.out, lvlCue_fade HQ.out htime ha HE.out he, HM.out])
              obtain ⟨p, HP⟩ : ∃ p, Hid (near m x.Length = p) := ⟨_, rfl⟩
              rw [HP.out] at nb K4 HN
              have hpb : 0 ≤ lev + p ∧ lev + p ≤ 1000 := by
                rcases Int.le_total 0 (x.Value - lev) with h | h
                · have := nb.1 h; omega
                · have := nb.2 h; omega
              have hpb1 := hpb.1
              have hpb2 := hpb.2
              clear nb hpb
              have hm2 := HM.out
              clear ha
              go_wp2_with (go_at_call 36; (try rw [hm2]); with_reducible refine (K4.out _).mono ?_; rintro e' w7 ⟨rfl, n1, rfl⟩)
              clear hm2
              go_roundw
              case rel => exact ⟨k + 1, by omega, by go_num, by rw [HN.out], Lib.hid (G1.out.drewN n1)⟩
              case measure => simp [intOf]; omega
            · have he2 : x.Time + x.Length ≤ time := by omega
              have HN := Lib.hid (show lvl L tg time (k + 1) = x.Value by rw [HC.out, lvlCue_done HQ.out htime ha HE.out he2])
              clear he ha
              go_wp2
              go_roundw
              case rel => exact ⟨k + 1, by omega, by go_num, by rw [HN.out], Lib.hid G1.out⟩
              case measure => simp [intOf]; omega
          · have had : (x.Action == 2) = false := by simp [ha]
            have HN := Lib.hid (show lvl L tg time (k + 1) = x.Value by rw [HC.out, lvlCue_set HQ.out htime ha])
            clear ha
            go_wp2
            go_roundw
            case rel => exact ⟨k + 1, by omega, by go_num, by rw [HN.out], Lib.hid G1.out⟩
            case measure => simp [intOf]; omega
      · have hcc2 : k + 1 < c := by omega
        go_wp2
        obtain ⟨wo, rfl⟩ : ∃ wo : World, wo = wr := ⟨_, rfl⟩
        go_loopw [10, 36] (fun v i wr => ∃ (j : Nat), j ≤ n - (k + 1) ∧ i = .int .i64 j ∧ v = .int .i64 time ∧ Hid ((R.take j).all (fun z => !eqS z.Target tg) = true) ∧ Hid (G (wo.alloc (.cells #[.string x.Id, .int .i64 x.Time, .int .i64 x.Length, .string x.Target, .int .i64 x.Action, .int .i64 x.Value] 44)) wr)) (fun _ i _ => (n - (k + 1)) - (intOf i).toNat)
        case atStart => exact ⟨0, Nat.zero_le _, rfl, rfl, Lib.hid (by simp), Lib.hid (G.refl _)⟩
        case round =>
          obtain ⟨j, hj, rfl, rfl, HA, GI⟩ := hrel
          by_cases hjl : j < n - (k + 1)
          · obtain ⟨b', o', y, he', hy, hy0, hy1, hy2, hy3, hy4, hy5⟩ := (HRD2.out.G GI.out).Cue (k := j) (by rw [HRl.out]; exact hjl)
            cases he'
            have HY := Lib.hid hy
            have hyb := y.Time
            clear hyb hy
            cases hq2 : eqS y.Target tg
            · have hdy : (y.Target.toList == tg.toList) = false := hq2
              have HA2 := Lib.hid (all_snoc (p := fun z => !eqS z.Target tg) HY.out HA.out (by simp [hq2]))
              clear hq2
              go_wp2
              go_roundw
              case rel => exact ⟨j + 1, by omega, by go_num, rfl, HA2, Lib.hid (GI.out.alloc _)⟩
              case measure => simp [intOf]; omega
            · have hdy : (y.Target.toList == tg.toList) = true := hq2
              have HEm := Lib.hid (find_hit_end (time := time) HY.out HA.out hq2)
              clear hq2
              obtain ⟨e, hmin⟩ : ∃ e, min time y.Time = e := ⟨_, rfl⟩
              have HE := Lib.hid (show lvlEnd R tg time = e by rw [HEm.out]; exact hmin)
              have hed0 : x.Time ≤ e ∧ e ≤ time := by have := HED.out htime; rw [HE.out] at this; exact this
              have GY := Lib.hid (GI.out.alloc (.cells #[.string y.Id, .int .i64 y.Time, .int .i64 y.Length, .string y.Target, .int .i64 y.Action, .int .i64 y.Value] 44))
              replace hd1 := GY.out.cell hd1
              replace hd2 := GY.out.cell hd2
              replace hd4 := GY.out.cell hd4
              replace hd5 := GY.out.cell hd5
              have G2 := Lib.hid (G1.out.trans GY.out)
              have xe : 0 ≤ e ∧ e ≤ 7200000 := by omega
              by_cases ha : x.Action = 2
              · have had : (x.Action == 2) = true := by simp [ha]
                have xl := xb6 ha
                by_cases he : e < x.Time + x.Length
                · skip
                  have hm := lvl_mul (v := x.Value) (lev := lev) (e := e) (t := x.Time) (l := x.Length) ⟨xb2, xb3⟩ hlb (by omega) (by omega) (by omega)
                  obtain ⟨m, HM⟩ : ∃ m, Hid ((x.Value - lev) * (e - x.Time) = m) := ⟨_, rfl⟩
                  rw [HM.out] at hm
                  have nb := near_share (d := x.Value - lev) (y := e - x.Time) (c := x.Length) (by omega) (by omega) (by omega)
                  rw [HM.out] at nb
                  have K4 := Lib.hid (fun W => nearest_any m x.Length (by omega) (by omega) (by omega) (by omega) W)
                  have HN := Lib.hid (show lvl L tg time (k + 1) = lev + near m x.Length by rw [HC.out, lvlCue_fade HQ.out htime ha HE.out he, HM.out])
                  obtain ⟨p, HP⟩ : ∃ p, Hid (near m x.Length = p) := ⟨_, rfl⟩
                  rw [HP.out] at nb K4 HN
                  have hpb : 0 ≤ lev + p ∧ lev + p ≤ 1000 := by
                    rcases Int.le_total 0 (x.Value - lev) with h | h
                    · have := nb.1 h; omega
                    · have := nb.2 h; omega
                  have hpb1 := hpb.1
                  have hpb2 := hpb.2
                  clear nb hpb
                  have hm2 := HM.out
                  clear ha
                  go_wp2_with (go_at_call 36; (try rw [hm2]); with_reducible refine (K4.out _).mono ?_; rintro e' w7 ⟨rfl, n1, rfl⟩)
                  clear hm2
                  go_roundw
                  case rel => exact ⟨k + 1, by omega, by go_num, by rw [HN.out], Lib.hid (G2.out.drewN n1)⟩
                  case measure => simp [intOf]; omega
                · have he2 : x.Time + x.Length ≤ e := by omega
                  have HN := Lib.hid (show lvl L tg time (k + 1) = x.Value by rw [HC.out, lvlCue_done HQ.out htime ha HE.out he2])
                  clear he ha
                  go_wp2
                  go_roundw
                  case rel => exact ⟨k + 1, by omega, by go_num, by rw [HN.out], Lib.hid G2.out⟩
                  case measure => simp [intOf]; omega
              · have had : (x.Action == 2) = false := by simp [ha]
                have HN := Lib.hid (show lvl L tg time (k + 1) = x.Value by rw [HC.out, lvlCue_set HQ.out htime ha])
                clear ha
                go_wp2
                go_roundw
                case rel => exact ⟨k + 1, by omega, by go_num, by rw [HN.out], Lib.hid G2.out⟩
                case measure => simp [intOf]; omega
          · have HE := Lib.hid (show lvlEnd R tg time = time from find_none_end (all_take_all (by rw [HRl.out]; omega) HA.out))
            have hed0 : x.Time ≤ time ∧ time ≤ time := ⟨htime, Int.le_refl _⟩
            replace hd1 := GI.out.cell hd1
            replace hd2 := GI.out.cell hd2
            replace hd4 := GI.out.cell hd4
            replace hd5 := GI.out.cell hd5
            have G2 := Lib.hid (G1.out.trans GI.out)
            have xe : 0 ≤ time ∧ time ≤ 7200000 := by omega
            by_cases ha : x.Action = 2
            · have had : (x.Action == 2) = true := by simp [ha]
              have xl := xb6 ha
              by_cases he : time < x.Time + x.Length
              · skip
                have hm := lvl_mul (v := x.Value) (lev := lev) (e := time) (t := x.Time) (l := x.Length) ⟨xb2, xb3⟩ hlb (by omega) (by omega) (by omega)
                obtain ⟨m, HM⟩ : ∃ m, Hid ((x.Value - lev) * (time - x.Time) = m) := ⟨_, rfl⟩
                rw [HM.out] at hm
                have nb := near_share (d := x.Value - lev) (y := time - x.Time) (c := x.Length) (by omega) (by omega) (by omega)
                rw [HM.out] at nb
                have K4 := Lib.hid (fun W => nearest_any m x.Length (by omega) (by omega) (by omega) (by omega) W)
                have HN := Lib.hid (show lvl L tg time (k + 1) = lev + near m x.Length by rw [HC.out, lvlCue_fade HQ.out htime ha HE.out he, HM.out])
                obtain ⟨p, HP⟩ : ∃ p, Hid (near m x.Length = p) := ⟨_, rfl⟩
                rw [HP.out] at nb K4 HN
                have hpb : 0 ≤ lev + p ∧ lev + p ≤ 1000 := by
                  rcases Int.le_total 0 (x.Value - lev) with h | h
                  · have := nb.1 h; omega
                  · have := nb.2 h; omega
                have hpb1 := hpb.1
                have hpb2 := hpb.2
                clear nb hpb
                have hm2 := HM.out
                clear ha
                go_wp2_with (go_at_call 36; (try rw [hm2]); with_reducible refine (K4.out _).mono ?_; rintro e' w7 ⟨rfl, n1, rfl⟩)
                clear hm2
                go_roundw
                case rel => exact ⟨k + 1, by omega, by go_num, by rw [HN.out], Lib.hid (G2.out.drewN n1)⟩
                case measure => simp [intOf]; omega
              · have he2 : x.Time + x.Length ≤ time := by omega
                have HN := Lib.hid (show lvl L tg time (k + 1) = x.Value by rw [HC.out, lvlCue_done HQ.out htime ha HE.out he2])
                clear he ha
                go_wp2
                go_roundw
                case rel => exact ⟨k + 1, by omega, by go_num, by rw [HN.out], Lib.hid G2.out⟩
                case measure => simp [intOf]; omega
            · have had : (x.Action == 2) = false := by simp [ha]
              have HN := Lib.hid (show lvl L tg time (k + 1) = x.Value by rw [HC.out, lvlCue_set HQ.out htime ha])
              clear ha
              go_wp2
              go_roundw
              case rel => exact ⟨k + 1, by omega, by go_num, by rw [HN.out], Lib.hid G2.out⟩
              case measure => simp [intOf]; omega
    · obtain rfl : k = n := by omega
      go_wp2
      go_ret
      exact ⟨ret_int HLV.out.symm, G0.out⟩
end Go.Proofs.Ytecakcgkibemaaa
