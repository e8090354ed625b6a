/-
  The law FnSeek, walked.
-/
import Derived.Test.YtecakcgkibemaaaSeekLaw
import Derived.Test.YtecakcgkibemaaaDrawPl
import Derived.Test.YtecakcgkibemaaaTickO
import Derived.Test.YtecakcgkibemaaaR8W
import Derived.Test.YtecakcgkibemaaaLvAt
import Derived.Test.YtecakcgkibemaaaSamePl
namespace Go.Proofs.Ytecakcgkibemaaa
open Go.RowKit

theorem resT_of {w : World} {M : List SCue} {t r : Int} {p : Bool} {code : Int} {F : List ByteArray} {e : Ending} {w' : World} (h : ResT w (⟨M, t, r, p, code⟩, F) e w') : ∃ A c A2 c2, e = .returned (.tuple #[.agg #[.slice A M.length c, .int .i64 t, .int .i64 r, .bool p], .slice A2 F.length c2, .int .i64 code]) ∧ G w w' ∧ w'.ownsRow w.heap.size 44 6 (.slice A M.length c) M.length (M.flatMap cCue) ∧ w'.ownsRow w.heap.size 9 1 (.slice A2 F.length c2) F.length (F.flatMap sv) := by
  obtain ⟨A, c, A2, c2, h1, h2, h3, h4, -⟩ := h
  exact ⟨A, c, A2, c2, h1, h2, h3, h4⟩
theorem resP_of {w : World} {M : List SCue} {t r : Int} {p : Bool} {code : Int} {e : Ending} {w' : World} (h : ResP w ⟨M, t, r, p, code⟩ e w') : ∃ A c, e = .returned (.tuple #[.agg #[.slice A M.length c, .int .i64 t, .int .i64 r, .bool p], .int .i64 code]) ∧ G w w' ∧ w'.ownsRow w.heap.size 44 6 (.slice A M.length c) M.length (M.flatMap cCue) := h
theorem res_of {w : World} {M : List SLevel} {code : Int} {e : Ending} {w' : World} (h : Res w 41 2 cLevel (M, code) e w') : ∃ A c, e = .returned (.tuple #[.slice A M.length c, .int .i64 code]) ∧ G w w' ∧ w'.ownsRow w.heap.size 41 2 (.slice A M.length c) M.length (M.flatMap cLevel) := h
theorem sameC_self (x : SCue) : sameC x x = true := by
  simp [sameC]
theorem samePl_self (L : List SCue) (t r : Int) (p : Bool) : samePl L L t t r r p p = true := by
  have : sameLs L L = true := by
    unfold sameLs
    rw [Bool.and_eq_true]
    refine ⟨by simp, List.all_eq_true.2 fun k hk => ?_⟩
    rw [List.mem_range] at hk
    have := List.getElem?_eq_getElem hk
    simp [sameAt, this, sameC_self]
  unfold samePl
  rw [this]
  simp
theorem lvs_at {L : List SCue} {t : Int} {k : Nat} {x : SLevel} (h : (lvsL L t)[k]? = some x) : x.Value = lvl L x.Target t L.length := by
  unfold lvsL at h
  rw [List.getElem?_map] at h
  cases hq : (tgN L)[k]? with
  | none => rw [hq] at h; cases h
  | some tg => rw [hq] at h; cases h; rfl
set_option maxRecDepth 20000 in
set_option maxHeartbeats 16000000 in
theorem lawFnSeek (A0 : Option Addr) (n0 c0 : Nat) (z0 : List Int) (A1 : Option Addr) (n1 c1 : Nat) (z1 : List Int) (w : World) (h0 : IsRow .u8 w A0 n0 c0 z0) (h1 : IsRow .u8 w A1 n1 c1 z1) :
    Calls Try.prog 3 #[.slice A0 n0 c0, .slice A1 n1 c1] w fun e w' => e = .returned (.bool true) ∧ Below w.heap.size w w' := by
  by_cases hb0 : n0 ≤ 1048576
  case neg =>
    clear h0 h1
    by_cases hb1 : n1 ≤ 1048576
    all_goals
      go_enter Try.func3, Try.ntmps3
      go_wp2
      go_ret
      exact ⟨rfl, G.refl _⟩
  by_cases hb1 : n1 ≤ 1048576
  case neg =>
    clear h0 h1
    go_enter Try.func3, Try.ntmps3
    go_wp2
    go_ret
    exact ⟨rfl, G.refl _⟩
  obtain ⟨hc0, hl0⟩ := code_of_isRow h0 hb0
  obtain ⟨hc1, hl1⟩ := code_of_isRow h1 hb1
  have KP := Lib.hid (R8Player_any A0 n0 c0 _ w hc0 hl0)
  have HC1 := Lib.hid hc1
  clear h0 h1 hc0 hl0 hc1 hl1
  go_enter Try.func3, Try.ntmps3
  go_wp2_with fail
  refine (r8Long_no A0 A1 n0 c0 n1 c1 hb0 hb1 _).mono ?_
  rintro e w' ⟨rfl, rfl⟩
  dsimp only
  go_wp2_with fail
  refine KP.out.mono ?_
  rintro e w1 ⟨v, ⟨b, cb, M, t, r, p, rfl, hv, hcb, om⟩, rfl, g1⟩
  have G1 := Lib.hid g1
  have OM := Lib.hid om
  clear g1 om KP
  dsimp only
  obtain ⟨hvc, ht0, ht1, -, -, he⟩ := vplB_bd hv
  have hm32 := vcus_len hvc
  have HWF := Lib.hid (vcus_wfs hvc)
  have HVC := Lib.hid hvc
  have HV := Lib.hid (vpl_mk hvc ht0 ht1)
  have HEN := Lib.hid (endL_all hvc)
  clear hv hvc ht0 ht1 he
  have gx := (G.refl w1).alloc (.cells #[.slice (some ⟨b, 0, none⟩) M.length cb, .int .i64 t, .int .i64 1000, .bool true] 26)
  replace OM := Lib.hid (own_G OM.out gx)
  have G2 := Lib.hid (G1.out.trans gx)
  clear gx G1
  have cp0 := Lib.hid (show (w1.alloc (.cells #[.slice (some ⟨b, 0, none⟩) M.length cb, .int .i64 t, .int .i64 1000, .bool true] 26)).cell? ⟨w1.heap.size, 0, none⟩ = some (.slice (some ⟨b, 0, none⟩) M.length cb) from (World.cell?_alloc_at _ _ _ 0 rfl).trans rfl)
  have cp1 := Lib.hid (show (w1.alloc (.cells #[.slice (some ⟨b, 0, none⟩) M.length cb, .int .i64 t, .int .i64 1000, .bool true] 26)).cell? ⟨w1.heap.size, 1, none⟩ = some (.int .i64 t) from (World.cell?_alloc_at _ _ _ 1 rfl).trans rfl)
  have cp2 := Lib.hid (show (w1.alloc (.cells #[.slice (some ⟨b, 0, none⟩) M.length cb, .int .i64 t, .int .i64 1000, .bool true] 26)).cell? ⟨w1.heap.size, 2, none⟩ = some (.int .i64 1000) from (World.cell?_alloc_at _ _ _ 2 rfl).trans rfl)
  have cp3 := Lib.hid (show (w1.alloc (.cells #[.slice (some ⟨b, 0, none⟩) M.length cb, .int .i64 t, .int .i64 1000, .bool true] 26)).cell? ⟨w1.heap.size, 3, none⟩ = some (.bool true) from (World.cell?_alloc_at _ _ _ 3 rfl).trans rfl)
  go_wp2_with fail
  refine (r8Wide_any A1 n1 c1 _ 0 6000 _ (HC1.out.g G2.out) (by omega) (by omega) (by omega) (by omega)).mono ?_
  rintro e w' ⟨x, hx0, hx1, rfl, rfl⟩
  dsimp only
  go_wp2_with fail
  refine (r8Wide_any A1 n1 c1 _ 2 6000 _ (HC1.out.g G2.out) (by omega) (by omega) (by omega) (by omega)).mono ?_
  rintro e w' ⟨y, hy0, hy1, rfl, rfl⟩
  dsimp only
  obtain ⟨t1, t2, p1, p2, F1, F2, e1, e2, e3, v1, v2⟩ := ticks HV.out hx0 hx1 hy0 hy1
  have E1 := Lib.hid e1
  have E2 := Lib.hid e2
  have E3 := Lib.hid e3
  have V1 := Lib.hid v1
  have V2 := Lib.hid v2
  have hfl := tickR_len2 M (t := t) (r := 1000) (p := true) (m := x + y)
  rw [e3] at hfl
  simp only [List.length_append] at hfl
  clear e1 e2 e3 v1 v2
  go_wp2_with fail
  refine (iTickBy_anyO _ M.length cb t 1000 true M x _ (rd_own (by decide) cCue_len OM.out) rfl (by omega) ?hcap HWF.out).mono ?_
  case hcap => exact (own_cap OM.out).1
  rw [E1.out]
  intro e w3 hT
  obtain ⟨A3, c3, B3, d3, rfl, g3, o3, f3⟩ := resT_of hT
  clear hT
  replace OM := Lib.hid (own_G OM.out g3)
  replace cp0 := Lib.hid (g3.cell cp0.out)
  replace cp1 := Lib.hid (g3.cell cp1.out)
  replace cp2 := Lib.hid (g3.cell cp2.out)
  replace cp3 := Lib.hid (g3.cell cp3.out)
  have G3 := Lib.hid (G2.out.trans g3)
  clear g3 G2
  have O3 := Lib.hid o3
  have S3 := Lib.hid f3
  clear o3 f3
  dsimp only
  have gx := (G.refl w3).alloc (.cells #[.slice A3 M.length c3, .int .i64 t1, .int .i64 1000, .bool p1] 26)
  replace OM := Lib.hid (own_G OM.out gx)
  replace O3 := Lib.hid (own_G O3.out gx)
  replace S3 := Lib.hid (own_G S3.out gx)
  replace cp0 := Lib.hid (gx.cell cp0.out)
  replace cp1 := Lib.hid (gx.cell cp1.out)
  replace cp2 := Lib.hid (gx.cell cp2.out)
  replace cp3 := Lib.hid (gx.cell cp3.out)
  have G4 := Lib.hid (G3.out.trans gx)
  clear gx G3
  have ca0 := Lib.hid (show (w3.alloc (.cells #[.slice A3 M.length c3, .int .i64 t1, .int .i64 1000, .bool p1] 26)).cell? ⟨w3.heap.size, 0, none⟩ = some (.slice A3 M.length c3) from (World.cell?_alloc_at _ _ _ 0 rfl).trans rfl)
  have ca1 := Lib.hid (show (w3.alloc (.cells #[.slice A3 M.length c3, .int .i64 t1, .int .i64 1000, .bool p1] 26)).cell? ⟨w3.heap.size, 1, none⟩ = some (.int .i64 t1) from (World.cell?_alloc_at _ _ _ 1 rfl).trans rfl)
  have ca2 := Lib.hid (show (w3.alloc (.cells #[.slice A3 M.length c3, .int .i64 t1, .int .i64 1000, .bool p1] 26)).cell? ⟨w3.heap.size, 2, none⟩ = some (.int .i64 1000) from (World.cell?_alloc_at _ _ _ 2 rfl).trans rfl)
  have ca3 := Lib.hid (show (w3.alloc (.cells #[.slice A3 M.length c3, .int .i64 t1, .int .i64 1000, .bool p1] 26)).cell? ⟨w3.heap.size, 3, none⟩ = some (.bool p1) from (World.cell?_alloc_at _ _ _ 3 rfl).trans rfl)
  go_wp2_with fail
  refine (iTickBy_anyO _ M.length c3 t1 1000 p1 M y _ (rd_own (by decide) cCue_len O3.out) rfl (by omega) ?hcap HWF.out).mono ?_
  case hcap => exact (own_cap O3.out).1
  rw [E2.out]
  intro e w5 hT
  obtain ⟨A5, c5, B5, d5, rfl, g5, o5, f5⟩ := resT_of hT
  clear hT
  replace OM := Lib.hid (own_G OM.out g5)
  replace O3 := Lib.hid (own_G O3.out g5)
  replace S3 := Lib.hid (own_G S3.out g5)
  replace cp0 := Lib.hid (g5.cell cp0.out)
  replace cp1 := Lib.hid (g5.cell cp1.out)
  replace cp2 := Lib.hid (g5.cell cp2.out)
  replace cp3 := Lib.hid (g5.cell cp3.out)
  replace ca0 := Lib.hid (g5.cell ca0.out)
  replace ca1 := Lib.hid (g5.cell ca1.out)
  replace ca2 := Lib.hid (g5.cell ca2.out)
  replace ca3 := Lib.hid (g5.cell ca3.out)
  have G5 := Lib.hid (G4.out.trans g5)
  clear g5 G4
  have O5 := Lib.hid o5
  have S5 := Lib.hid f5
  clear o5 f5
  dsimp only
  have gx := (G.refl w5).alloc (.cells #[.slice A5 M.length c5, .int .i64 t2, .int .i64 1000, .bool p2] 26)
  replace OM := Lib.hid (own_G OM.out gx)
  replace O3 := Lib.hid (own_G O3.out gx)
  replace S3 := Lib.hid (own_G S3.out gx)
  replace O5 := Lib.hid (own_G O5.out gx)
  replace S5 := Lib.hid (own_G S5.out gx)
  replace cp0 := Lib.hid (gx.cell cp0.out)
  replace cp1 := Lib.hid (gx.cell cp1.out)
  replace cp2 := Lib.hid (gx.cell cp2.out)
  replace cp3 := Lib.hid (gx.cell cp3.out)
  replace ca0 := Lib.hid (gx.cell ca0.out)
  replace ca1 := Lib.hid (gx.cell ca1.out)
  replace ca2 := Lib.hid (gx.cell ca2.out)
  replace ca3 := Lib.hid (gx.cell ca3.out)
  have G6 := Lib.hid (G5.out.trans gx)
  clear gx G5
  have cd0 := Lib.hid (show (w5.alloc (.cells #[.slice A5 M.length c5, .int .i64 t2, .int .i64 1000, .bool p2] 26)).cell? ⟨w5.heap.size, 0, none⟩ = some (.slice A5 M.length c5) from (World.cell?_alloc_at _ _ _ 0 rfl).trans rfl)
  have cd1 := Lib.hid (show (w5.alloc (.cells #[.slice A5 M.length c5, .int .i64 t2, .int .i64 1000, .bool p2] 26)).cell? ⟨w5.heap.size, 1, none⟩ = some (.int .i64 t2) from (World.cell?_alloc_at _ _ _ 1 rfl).trans rfl)
  have cd2 := Lib.hid (show (w5.alloc (.cells #[.slice A5 M.length c5, .int .i64 t2, .int .i64 1000, .bool p2] 26)).cell? ⟨w5.heap.size, 2, none⟩ = some (.int .i64 1000) from (World.cell?_alloc_at _ _ _ 2 rfl).trans rfl)
  have cd3 := Lib.hid (show (w5.alloc (.cells #[.slice A5 M.length c5, .int .i64 t2, .int .i64 1000, .bool p2] 26)).cell? ⟨w5.heap.size, 3, none⟩ = some (.bool p2) from (World.cell?_alloc_at _ _ _ 3 rfl).trans rfl)
  have qcp0 := cp0.out
  have qcp1 := cp1.out
  have qcp2 := cp2.out
  have qcp3 := cp3.out
  go_wp2_with fail
  refine (iTickBy_anyO _ M.length cb t 1000 true M (x + y) _ (rd_own (by decide) cCue_len OM.out) rfl (by omega) ?hcap HWF.out).mono ?_
  case hcap => exact (own_cap OM.out).1
  rw [E3.out]
  intro e w7 hT
  obtain ⟨A7, c7, B7, d7, rfl, g7, o7, f7⟩ := resT_of hT
  clear hT
  replace OM := Lib.hid (own_G OM.out g7)
  replace O3 := Lib.hid (own_G O3.out g7)
  replace S3 := Lib.hid (own_G S3.out g7)
  replace O5 := Lib.hid (own_G O5.out g7)
  replace S5 := Lib.hid (own_G S5.out g7)
  replace cp0 := Lib.hid (g7.cell cp0.out)
  replace cp1 := Lib.hid (g7.cell cp1.out)
  replace cp2 := Lib.hid (g7.cell cp2.out)
  replace cp3 := Lib.hid (g7.cell cp3.out)
  replace ca0 := Lib.hid (g7.cell ca0.out)
  replace ca1 := Lib.hid (g7.cell ca1.out)
  replace ca2 := Lib.hid (g7.cell ca2.out)
  replace ca3 := Lib.hid (g7.cell ca3.out)
  replace cd0 := Lib.hid (g7.cell cd0.out)
  replace cd1 := Lib.hid (g7.cell cd1.out)
  replace cd2 := Lib.hid (g7.cell cd2.out)
  replace cd3 := Lib.hid (g7.cell cd3.out)
  have G7 := Lib.hid (G6.out.trans g7)
  clear g7 G6
  have O7 := Lib.hid o7
  have S7 := Lib.hid f7
  clear o7 f7
  dsimp only
  clear qcp0 qcp1 qcp2 qcp3
  rw [List.length_append]
  obtain ⟨k1, HK1⟩ : ∃ k, Hid (F1.length = k) := ⟨_, rfl⟩
  obtain ⟨k2, HK2⟩ : ∃ k, Hid (F2.length = k) := ⟨_, rfl⟩
  rw [HK1.out, HK2.out] at hfl
  rw [List.length_append] at S7
  rw [HK1.out] at S3
  rw [HK2.out] at S5
  rw [HK1.out, HK2.out] at S7
  rw [HK1.out, HK2.out]
  have gx := (G.refl w7).alloc (.cells #[.slice A7 M.length c7, .int .i64 t2, .int .i64 1000, .bool p2] 26)
  replace OM := Lib.hid (own_G OM.out gx)
  replace O3 := Lib.hid (own_G O3.out gx)
  replace S3 := Lib.hid (own_G S3.out gx)
  replace O5 := Lib.hid (own_G O5.out gx)
  replace S5 := Lib.hid (own_G S5.out gx)
  replace O7 := Lib.hid (own_G O7.out gx)
  replace S7 := Lib.hid (own_G S7.out gx)
  replace cp0 := Lib.hid (gx.cell cp0.out)
  replace cp1 := Lib.hid (gx.cell cp1.out)
  replace cp2 := Lib.hid (gx.cell cp2.out)
  replace cp3 := Lib.hid (gx.cell cp3.out)
  replace ca0 := Lib.hid (gx.cell ca0.out)
  replace ca1 := Lib.hid (gx.cell ca1.out)
  replace ca2 := Lib.hid (gx.cell ca2.out)
  replace ca3 := Lib.hid (gx.cell ca3.out)
  replace cd0 := Lib.hid (gx.cell cd0.out)
  replace cd1 := Lib.hid (gx.cell cd1.out)
  replace cd2 := Lib.hid (gx.cell cd2.out)
  replace cd3 := Lib.hid (gx.cell cd3.out)
  have G8 := Lib.hid (G7.out.trans gx)
  clear gx G7
  have ce0 := Lib.hid (show (w7.alloc (.cells #[.slice A7 M.length c7, .int .i64 t2, .int .i64 1000, .bool p2] 26)).cell? ⟨w7.heap.size, 0, none⟩ = some (.slice A7 M.length c7) from (World.cell?_alloc_at _ _ _ 0 rfl).trans rfl)
  have ce1 := Lib.hid (show (w7.alloc (.cells #[.slice A7 M.length c7, .int .i64 t2, .int .i64 1000, .bool p2] 26)).cell? ⟨w7.heap.size, 1, none⟩ = some (.int .i64 t2) from (World.cell?_alloc_at _ _ _ 1 rfl).trans rfl)
  have ce2 := Lib.hid (show (w7.alloc (.cells #[.slice A7 M.length c7, .int .i64 t2, .int .i64 1000, .bool p2] 26)).cell? ⟨w7.heap.size, 2, none⟩ = some (.int .i64 1000) from (World.cell?_alloc_at _ _ _ 2 rfl).trans rfl)
  have ce3 := Lib.hid (show (w7.alloc (.cells #[.slice A7 M.length c7, .int .i64 t2, .int .i64 1000, .bool p2] 26)).cell? ⟨w7.heap.size, 3, none⟩ = some (.bool p2) from (World.cell?_alloc_at _ _ _ 3 rfl).trans rfl)
  have qcd0 := cd0.out
  have qcd1 := cd1.out
  have qcd2 := cd2.out
  have qcd3 := cd3.out
  go_wp2_with fail
  refine (sSamePlayer_any _ _ M.length c5 M.length c7 t2 1000 t2 1000 p2 p2 M M _ (rd_own (by decide) cCue_len O5.out) rfl (by omega) (rd_own (by decide) cCue_len O7.out) rfl (by omega)).mono ?_
  rw [samePl_self]
  rintro e w9 ⟨rfl, g9⟩
  clear qcd0 qcd1 qcd2 qcd3
  replace OM := Lib.hid (own_G OM.out g9)
  replace O3 := Lib.hid (own_G O3.out g9)
  replace S3 := Lib.hid (own_G S3.out g9)
  replace O5 := Lib.hid (own_G O5.out g9)
  replace S5 := Lib.hid (own_G S5.out g9)
  replace O7 := Lib.hid (own_G O7.out g9)
  replace S7 := Lib.hid (own_G S7.out g9)
  replace cp0 := Lib.hid (g9.cell cp0.out)
  replace cp1 := Lib.hid (g9.cell cp1.out)
  replace cp2 := Lib.hid (g9.cell cp2.out)
  replace cp3 := Lib.hid (g9.cell cp3.out)
  replace ca0 := Lib.hid (g9.cell ca0.out)
  replace ca1 := Lib.hid (g9.cell ca1.out)
  replace ca2 := Lib.hid (g9.cell ca2.out)
  replace ca3 := Lib.hid (g9.cell ca3.out)
  replace cd0 := Lib.hid (g9.cell cd0.out)
  replace cd1 := Lib.hid (g9.cell cd1.out)
  replace cd2 := Lib.hid (g9.cell cd2.out)
  replace cd3 := Lib.hid (g9.cell cd3.out)
  replace ce0 := Lib.hid (g9.cell ce0.out)
  replace ce1 := Lib.hid (g9.cell ce1.out)
  replace ce2 := Lib.hid (g9.cell ce2.out)
  replace ce3 := Lib.hid (g9.cell ce3.out)
  have G9 := Lib.hid (G8.out.trans g9)
  clear g9 G8
  dsimp only
  obtain ⟨K, HKK⟩ : ∃ K : Nat, K = k1 + k2 := ⟨_, rfl⟩
  have hK : (k1 : Int) + (k2 : Int) = (K : Int) := by omega
  have hw1 : IntKind.i64.wrap ((k1 : Int) + (k2 : Int)) = (K : Int) := by rw [hK]; exact IntWalk.i64_in _ (by omega)
  rw [← HKK] at S7 ⊢
  have HK := Lib.hid HKK
  have hK32 : K ≤ 32 := by omega
  clear HKK hK hfl
  go_wp2
  go_loopw [17] (fun i wr => ∃ k : Nat, k ≤ K ∧ i = .int .i64 (k : Int) ∧ Hid (G w9 wr)) (fun i _ => K - (intOf i).toNat)
  case atStart => exact ⟨0, Nat.zero_le _, rfl, Lib.hid (G.refl _)⟩
  case round =>
    clear hw1
    obtain ⟨k, hk, rfl, GR⟩ := hrel
    have hk0 : (0 : Int) ≤ (k : Int) := by omega
    by_cases hlt : k < K
    · have hlt2 : (k : Int) < (K : Int) := by omega
      obtain ⟨b7, o7, y', rfl, hy, hcy⟩ := (rd_own (f := sv) (L := F1 ++ F2) (by decide) (fun _ => rfl) (by have q := own_G S7.out GR.out; rw [show K = (F1 ++ F2).length by rw [List.length_append, HK1.out, HK2.out]; exact HK.out] at q; exact q)).str (k := k) (by rw [List.length_append, HK1.out, HK2.out, ← HK.out]; exact hlt)
      have gy := cellR hcy
      by_cases h1 : k < k1
      · have hd1 : decide ((k : Int) < (k1 : Int)) = true := by simp; omega
        have hd2 : decide ((k1 : Int) ≤ (k : Int)) = false := by simp; omega
        have hd3 : decide (k1 ≤ k) = false := by simp; omega
        have hlt3 : (k : Int) < (k1 : Int) := by omega
        obtain ⟨b3, o3, z, rfl, hz, hcz⟩ := (rd_own (f := sv) (L := F1) (by decide) (fun _ => rfl) (by have q := own_G S3.out GR.out; rw [← HK1.out] at q; exact q)).str (k := k) (by rw [HK1.out]; exact h1)
        rw [List.getElem?_append_left (by rw [HK1.out]; exact h1), hz] at hy
        obtain rfl : z = y' := Option.some.inj hy
        have gz := cellR hcz
        clear hy hz hcy hcz h1 hlt
        go_wp2
        refine region_quiet_G (by kernel_rfl) (by kernel_rfl) ?_; (repeat (go_big_quiet_step ((fail)))); refine wpQuiet_nil ?_
        intro wq gq
        have GQ := Lib.hid (GR.out.trans gq)
        clear gq gy gz hd1 hd2 hd3
        go_wp2
        go_roundw
        case rel => exact ⟨k + 1, by omega, by go_num, GQ⟩
        case measure => simp [intOf]; omega
      · have hd1 : decide ((k : Int) < (k1 : Int)) = false := by simp; omega
        have hd2 : decide ((k1 : Int) ≤ (k : Int)) = true := by simp; omega
        have hd3 : decide (k1 ≤ k) = true := by simp; omega
        have hd4 : decide (k < k1) = false := by simp; omega
        obtain ⟨j, HJ⟩ : ∃ j, Hid (k = k1 + j) := ⟨k - k1, Lib.hid (by omega)⟩
        have hj : j < k2 := by have h2 := HJ.out; have h3 := HK.out; omega
        have hj0 : (0 : Int) ≤ (j : Int) := by omega
        have hj1 : (j : Int) < (k2 : Int) := by omega
        have hsub : IntKind.i64.wrap ((k : Int) - (k1 : Int)) = (j : Int) := by rw [show (k : Int) - (k1 : Int) = (j : Int) by have h2 := HJ.out; omega]; exact IntWalk.i64_in _ (by have h3 := HK.out; omega)
        obtain ⟨b5, o5, z, rfl, hz, hcz⟩ := (rd_own (f := sv) (L := F2) (by decide) (fun _ => rfl) (by have q := own_G S5.out GR.out; rw [← HK2.out] at q; exact q)).str (k := j) (by rw [HK2.out]; exact hj)
        rw [List.getElem?_append_right (by rw [HK1.out]; omega), HK1.out, show k - k1 = j by have h2 := HJ.out; omega, hz] at hy
        obtain rfl : z = y' := Option.some.inj hy
        have gz := cellR hcz
        clear hy hz hcy hcz h1 hlt
        go_wp2
        refine region_quiet_G (by kernel_rfl) (by kernel_rfl) ?_; (repeat (go_big_quiet_step ((fail)))); refine wpQuiet_nil ?_
        intro wq gq
        have GQ := Lib.hid (GR.out.trans gq)
        clear gq gy gz hd1 hd2 hd3 hd4 hsub
        go_wp2
        go_roundw
        case rel => exact ⟨k + 1, by omega, by go_num, GQ⟩
        case measure => simp [intOf]; omega
    · obtain rfl : k = K := by omega
      have hnl : ¬ ((k : Int) < (k : Int)) := by omega
      obtain ⟨w10, rfl⟩ : ∃ w10 : World, w10 = wr := ⟨_, rfl⟩
      have gR := GR.out
      replace OM := Lib.hid (own_G OM.out gR)
      replace O3 := Lib.hid (own_G O3.out gR)
      replace S3 := Lib.hid (own_G S3.out gR)
      replace O5 := Lib.hid (own_G O5.out gR)
      replace S5 := Lib.hid (own_G S5.out gR)
      replace O7 := Lib.hid (own_G O7.out gR)
      replace S7 := Lib.hid (own_G S7.out gR)
      replace cp0 := Lib.hid (gR.cell cp0.out)
      replace cp1 := Lib.hid (gR.cell cp1.out)
      replace cp2 := Lib.hid (gR.cell cp2.out)
      replace cp3 := Lib.hid (gR.cell cp3.out)
      replace ca0 := Lib.hid (gR.cell ca0.out)
      replace ca1 := Lib.hid (gR.cell ca1.out)
      replace ca2 := Lib.hid (gR.cell ca2.out)
      replace ca3 := Lib.hid (gR.cell ca3.out)
      replace cd0 := Lib.hid (gR.cell cd0.out)
      replace cd1 := Lib.hid (gR.cell cd1.out)
      replace cd2 := Lib.hid (gR.cell cd2.out)
      replace cd3 := Lib.hid (gR.cell cd3.out)
      replace ce0 := Lib.hid (gR.cell ce0.out)
      replace ce1 := Lib.hid (gR.cell ce1.out)
      replace ce2 := Lib.hid (gR.cell ce2.out)
      replace ce3 := Lib.hid (gR.cell ce3.out)
      have G10 := Lib.hid (G9.out.trans gR)
      clear gR G9
      clear GR
      obtain ⟨-, ht20, ht21, -, -, -⟩ := vplB_bd V2.out
      have ht22 : t2 ≤ 7200000 := by have := HEN.out; omega
      have ES := Lib.hid (seek_at (p := true) HV.out ht20 ht21)
      have qcp0 := cp0.out
      have qcp1 := cp1.out
      have qcp2 := cp2.out
      have qcp3 := cp3.out
      have qce1 := ce1.out
      go_wp2_with fail
      refine (iSeekTo_any ⟨b, 0, none⟩ M.length cb t 1000 true M t2 _ (rd_own (by decide) cCue_len OM.out) rfl (by omega) (own_cap OM.out).1 HWF.out).mono ?_
      rw [ES.out]
      intro e w11 hT
      obtain ⟨A11, c11, rfl, g11, o11⟩ := resP_of hT
      clear hT
      clear qcp0 qcp1 qcp2 qcp3 qce1
      replace OM := Lib.hid (own_G OM.out g11)
      replace O3 := Lib.hid (own_G O3.out g11)
      replace S3 := Lib.hid (own_G S3.out g11)
      replace O5 := Lib.hid (own_G O5.out g11)
      replace S5 := Lib.hid (own_G S5.out g11)
      replace O7 := Lib.hid (own_G O7.out g11)
      replace S7 := Lib.hid (own_G S7.out g11)
      replace cp0 := Lib.hid (g11.cell cp0.out)
      replace cp1 := Lib.hid (g11.cell cp1.out)
      replace cp2 := Lib.hid (g11.cell cp2.out)
      replace cp3 := Lib.hid (g11.cell cp3.out)
      replace ca0 := Lib.hid (g11.cell ca0.out)
      replace ca1 := Lib.hid (g11.cell ca1.out)
      replace ca2 := Lib.hid (g11.cell ca2.out)
      replace ca3 := Lib.hid (g11.cell ca3.out)
      replace cd0 := Lib.hid (g11.cell cd0.out)
      replace cd1 := Lib.hid (g11.cell cd1.out)
      replace cd2 := Lib.hid (g11.cell cd2.out)
      replace cd3 := Lib.hid (g11.cell cd3.out)
      replace ce0 := Lib.hid (g11.cell ce0.out)
      replace ce1 := Lib.hid (g11.cell ce1.out)
      replace ce2 := Lib.hid (g11.cell ce2.out)
      replace ce3 := Lib.hid (g11.cell ce3.out)
      have G11 := Lib.hid (G10.out.trans g11)
      clear g11 G10
      have O11 := Lib.hid o11
      clear o11
      dsimp only
      have gx := (G.refl w11).alloc (.cells #[.slice A11 M.length c11, .int .i64 t2, .int .i64 1000, .bool true] 26)
      replace OM := Lib.hid (own_G OM.out gx)
      replace O3 := Lib.hid (own_G O3.out gx)
      replace S3 := Lib.hid (own_G S3.out gx)
      replace O5 := Lib.hid (own_G O5.out gx)
      replace S5 := Lib.hid (own_G S5.out gx)
      replace O7 := Lib.hid (own_G O7.out gx)
      replace S7 := Lib.hid (own_G S7.out gx)
      replace O11 := Lib.hid (own_G O11.out gx)
      replace cp0 := Lib.hid (gx.cell cp0.out)
      replace cp1 := Lib.hid (gx.cell cp1.out)
      replace cp2 := Lib.hid (gx.cell cp2.out)
      replace cp3 := Lib.hid (gx.cell cp3.out)
      replace ca0 := Lib.hid (gx.cell ca0.out)
      replace ca1 := Lib.hid (gx.cell ca1.out)
      replace ca2 := Lib.hid (gx.cell ca2.out)
      replace ca3 := Lib.hid (gx.cell ca3.out)
      replace cd0 := Lib.hid (gx.cell cd0.out)
      replace cd1 := Lib.hid (gx.cell cd1.out)
      replace cd2 := Lib.hid (gx.cell cd2.out)
      replace cd3 := Lib.hid (gx.cell cd3.out)
      replace ce0 := Lib.hid (gx.cell ce0.out)
      replace ce1 := Lib.hid (gx.cell ce1.out)
      replace ce2 := Lib.hid (gx.cell ce2.out)
      replace ce3 := Lib.hid (gx.cell ce3.out)
      have G12 := Lib.hid (G11.out.trans gx)
      clear gx G11
      have cs0 := Lib.hid (show (w11.alloc (.cells #[.slice A11 M.length c11, .int .i64 t2, .int .i64 1000, .bool true] 26)).cell? ⟨w11.heap.size, 0, none⟩ = some (.slice A11 M.length c11) from (World.cell?_alloc_at _ _ _ 0 rfl).trans rfl)
      have cs1 := Lib.hid (show (w11.alloc (.cells #[.slice A11 M.length c11, .int .i64 t2, .int .i64 1000, .bool true] 26)).cell? ⟨w11.heap.size, 1, none⟩ = some (.int .i64 t2) from (World.cell?_alloc_at _ _ _ 1 rfl).trans rfl)
      have cs2 := Lib.hid (show (w11.alloc (.cells #[.slice A11 M.length c11, .int .i64 t2, .int .i64 1000, .bool true] 26)).cell? ⟨w11.heap.size, 2, none⟩ = some (.int .i64 1000) from (World.cell?_alloc_at _ _ _ 2 rfl).trans rfl)
      have cs3 := Lib.hid (show (w11.alloc (.cells #[.slice A11 M.length c11, .int .i64 t2, .int .i64 1000, .bool true] 26)).cell? ⟨w11.heap.size, 3, none⟩ = some (.bool true) from (World.cell?_alloc_at _ _ _ 3 rfl).trans rfl)
      obtain ⟨U, HU⟩ : ∃ U, Hid (lvsL M t2 = U) := ⟨_, rfl⟩
      have EL := Lib.hid (lvs_eq V2.out)
      rw [HU.out] at EL
      have HVAL := Lib.hid (fun (k : Nat) (x : SLevel) (h : U[k]? = some x) => lvs_at (L := M) (t := t2) (k := k) (x := x) (by rw [HU.out]; exact h))
      have hul : U.length ≤ 32 := by rw [← HU.out]; have := lvsR_len M t2 1000; rw [EL.out] at this; rw [HU.out]; exact Nat.le_trans this hm32
      go_wp2_with fail
      refine (iLevelsOf_any A11 M.length c11 t2 1000 true M _ (rd_own (by decide) cCue_len O11.out) rfl (by omega) (own_cap O11.out).1 HWF.out).mono ?_
      rw [EL.out]
      intro e w13 hT
      obtain ⟨A13, c13, rfl, g13, o13⟩ := res_of hT
      clear hT
      replace OM := Lib.hid (own_G OM.out g13)
      replace O3 := Lib.hid (own_G O3.out g13)
      replace S3 := Lib.hid (own_G S3.out g13)
      replace O5 := Lib.hid (own_G O5.out g13)
      replace S5 := Lib.hid (own_G S5.out g13)
      replace O7 := Lib.hid (own_G O7.out g13)
      replace S7 := Lib.hid (own_G S7.out g13)
      replace O11 := Lib.hid (own_G O11.out g13)
      replace cp0 := Lib.hid (g13.cell cp0.out)
      replace cp1 := Lib.hid (g13.cell cp1.out)
      replace cp2 := Lib.hid (g13.cell cp2.out)
      replace cp3 := Lib.hid (g13.cell cp3.out)
      replace ca0 := Lib.hid (g13.cell ca0.out)
      replace ca1 := Lib.hid (g13.cell ca1.out)
      replace ca2 := Lib.hid (g13.cell ca2.out)
      replace ca3 := Lib.hid (g13.cell ca3.out)
      replace cd0 := Lib.hid (g13.cell cd0.out)
      replace cd1 := Lib.hid (g13.cell cd1.out)
      replace cd2 := Lib.hid (g13.cell cd2.out)
      replace cd3 := Lib.hid (g13.cell cd3.out)
      replace ce0 := Lib.hid (g13.cell ce0.out)
      replace ce1 := Lib.hid (g13.cell ce1.out)
      replace ce2 := Lib.hid (g13.cell ce2.out)
      replace ce3 := Lib.hid (g13.cell ce3.out)
      replace cs0 := Lib.hid (g13.cell cs0.out)
      replace cs1 := Lib.hid (g13.cell cs1.out)
      replace cs2 := Lib.hid (g13.cell cs2.out)
      replace cs3 := Lib.hid (g13.cell cs3.out)
      have G13 := Lib.hid (G12.out.trans g13)
      clear g13 G12
      have L13 := Lib.hid o13
      clear o13
      dsimp only
      have qce0 := ce0.out
      have qce1 := ce1.out
      have qce2 := ce2.out
      have qce3 := ce3.out
      go_wp2_with fail
      refine (iLevelsOf_any A7 M.length c7 t2 1000 p2 M _ (rd_own (by decide) cCue_len O7.out) rfl (by omega) (own_cap O7.out).1 HWF.out).mono ?_
      rw [EL.out]
      intro e w14 hT
      obtain ⟨A14, c14, rfl, g14, o14⟩ := res_of hT
      clear hT
      clear qce0 qce1 qce2 qce3
      replace OM := Lib.hid (own_G OM.out g14)
      replace O3 := Lib.hid (own_G O3.out g14)
      replace S3 := Lib.hid (own_G S3.out g14)
      replace O5 := Lib.hid (own_G O5.out g14)
      replace S5 := Lib.hid (own_G S5.out g14)
      replace O7 := Lib.hid (own_G O7.out g14)
      replace S7 := Lib.hid (own_G S7.out g14)
      replace O11 := Lib.hid (own_G O11.out g14)
      replace L13 := Lib.hid (own_G L13.out g14)
      replace cp0 := Lib.hid (g14.cell cp0.out)
      replace cp1 := Lib.hid (g14.cell cp1.out)
      replace cp2 := Lib.hid (g14.cell cp2.out)
      replace cp3 := Lib.hid (g14.cell cp3.out)
      replace ca0 := Lib.hid (g14.cell ca0.out)
      replace ca1 := Lib.hid (g14.cell ca1.out)
      replace ca2 := Lib.hid (g14.cell ca2.out)
      replace ca3 := Lib.hid (g14.cell ca3.out)
      replace cd0 := Lib.hid (g14.cell cd0.out)
      replace cd1 := Lib.hid (g14.cell cd1.out)
      replace cd2 := Lib.hid (g14.cell cd2.out)
      replace cd3 := Lib.hid (g14.cell cd3.out)
      replace ce0 := Lib.hid (g14.cell ce0.out)
      replace ce1 := Lib.hid (g14.cell ce1.out)
      replace ce2 := Lib.hid (g14.cell ce2.out)
      replace ce3 := Lib.hid (g14.cell ce3.out)
      replace cs0 := Lib.hid (g14.cell cs0.out)
      replace cs1 := Lib.hid (g14.cell cs1.out)
      replace cs2 := Lib.hid (g14.cell cs2.out)
      replace cs3 := Lib.hid (g14.cell cs3.out)
      have G14 := Lib.hid (G13.out.trans g14)
      clear g14 G13
      have L14 := Lib.hid o14
      clear o14
      dsimp only
      obtain ⟨kl, HKL⟩ : ∃ k, Hid (U.length = k) := ⟨_, rfl⟩
      rw [HKL.out] at L13 L14 hul ⊢
      go_wp2
      go_loopw [24] (fun i wr => ∃ k : Nat, k ≤ kl ∧ i = .int .i64 (k : Int) ∧ Hid (G w14 wr)) (fun i _ => kl - (intOf i).toNat)
      case atStart => exact ⟨0, Nat.zero_le _, rfl, Lib.hid (G.refl _)⟩
      case round =>
        obtain ⟨k', hk', rfl, GR⟩ := hrel
        have hk0' : (0 : Int) ≤ (k' : Int) := by omega
        by_cases hlt : k' < kl
        · have hlt2 : (k' : Int) < (kl : Int) := by omega
          obtain ⟨b3, o3, x3, rfl, hx3, hc0, hc1⟩ := (rd_own (by decide) cLevel_len (by have q := own_G L13.out GR.out; rw [← HKL.out] at q; exact q)).Level (k := k') (by rw [HKL.out]; exact hlt)
          obtain ⟨b4, o4, x4, rfl, hx4, hd0, hd1⟩ := (rd_own (by decide) cLevel_len (by have q := own_G L14.out GR.out; rw [← HKL.out] at q; exact q)).Level (k := k') (by rw [HKL.out]; exact hlt)
          rw [hx3] at hx4
          obtain rfl : x3 = x4 := Option.some.inj hx4
          have hval := HVAL.out k' x3 hx3
          have HRM := Lib.hid (rd_own (by decide) cCue_len (own_G OM.out GR.out))
          have KL := Lib.hid (fun (dd : Nat) (os : Array Obj) => sLevelAt_any (some ⟨b, 0, none⟩) M.length cb M x3.Target t2 (Sort.grow (redrawn wr dd) os) (rdR HRM.out dd os) rfl (by omega) HWF.out HVC.out ht20 ht22)
          rw [← hval] at KL
          clear hval hx3 hx4 hlt
          have HC0 := Lib.hid hc0
          have HC1 := Lib.hid hc1
          have HD0 := Lib.hid hd0
          have HD1 := Lib.hid hd1
          have q0 := cellR (GR.out.cell cp0.out)
          have q1 := cellR hc0
          have q2 := cellR (GR.out.cell ce1.out)
          clear hc0 hc1 hd0 hd1
          go_wp2
          refine region_quiet_G (by kernel_rfl) (by kernel_rfl) ?_; (repeat (go_big_quiet_step (((go_at_call 11; exact quiet_G (KL.out _ _)))))); refine wpQuiet_nil ?_
          intro wq gq
          have q3 := cellR (gq.cell HC0.out)
          have q4 := cellR (gq.cell HC1.out)
          have q5 := cellR (gq.cell HD0.out)
          have q6 := cellR (gq.cell HD1.out)
          have GQ := Lib.hid (GR.out.trans gq)
          clear gq q0 q1 q2 KL
          go_wp2
          refine region_quiet_G (by kernel_rfl) (by kernel_rfl) ?_; (repeat (go_big_quiet_step ((fail)))); refine wpQuiet_nil ?_
          intro wz gz
          have GZ := Lib.hid (GQ.out.trans gz)
          clear gz q3 q4 q5 q6
          go_wp2
          go_roundw
          case rel => exact ⟨k' + 1, by omega, by go_num, GZ⟩
          case measure => simp [intOf]; omega
        · obtain rfl : k' = kl := by omega
          have hnl2 : ¬ ((k' : Int) < (k' : Int)) := by omega
          obtain ⟨w15, rfl⟩ : ∃ w15 : World, w15 = wr := ⟨_, rfl⟩
          have gR := GR.out
          replace OM := Lib.hid (own_G OM.out gR)
          replace O3 := Lib.hid (own_G O3.out gR)
          replace S3 := Lib.hid (own_G S3.out gR)
          replace O5 := Lib.hid (own_G O5.out gR)
          replace S5 := Lib.hid (own_G S5.out gR)
          replace O7 := Lib.hid (own_G O7.out gR)
          replace S7 := Lib.hid (own_G S7.out gR)
          replace O11 := Lib.hid (own_G O11.out gR)
          replace L13 := Lib.hid (own_G L13.out gR)
          replace L14 := Lib.hid (own_G L14.out gR)
          replace cp0 := Lib.hid (gR.cell cp0.out)
          replace cp1 := Lib.hid (gR.cell cp1.out)
          replace cp2 := Lib.hid (gR.cell cp2.out)
          replace cp3 := Lib.hid (gR.cell cp3.out)
          replace ca0 := Lib.hid (gR.cell ca0.out)
          replace ca1 := Lib.hid (gR.cell ca1.out)
          replace ca2 := Lib.hid (gR.cell ca2.out)
          replace ca3 := Lib.hid (gR.cell ca3.out)
          replace cd0 := Lib.hid (gR.cell cd0.out)
          replace cd1 := Lib.hid (gR.cell cd1.out)
          replace cd2 := Lib.hid (gR.cell cd2.out)
          replace cd3 := Lib.hid (gR.cell cd3.out)
          replace ce0 := Lib.hid (gR.cell ce0.out)
          replace ce1 := Lib.hid (gR.cell ce1.out)
          replace ce2 := Lib.hid (gR.cell ce2.out)
          replace ce3 := Lib.hid (gR.cell ce3.out)
          replace cs0 := Lib.hid (gR.cell cs0.out)
          replace cs1 := Lib.hid (gR.cell cs1.out)
          replace cs2 := Lib.hid (gR.cell cs2.out)
          replace cs3 := Lib.hid (gR.cell cs3.out)
          have G15 := Lib.hid (G14.out.trans gR)
          clear gR G14
          clear GR
          have qce0 := ce0.out
          have qce1 := ce1.out
          have qce2 := ce2.out
          have qce3 := ce3.out
          go_wp2_with fail
          refine (iNextCue_any A7 M.length c7 t2 1000 p2 M _ (rd_own (by decide) cCue_len O7.out) rfl (by omega) (own_cap O7.out).1 HWF.out).mono ?_
          have HNC := nc_cases V2.out
          obtain ⟨nr, HNR⟩ : ∃ nr, Hid (ncR M t2 1000 = nr) := ⟨_, rfl⟩
          rw [HNR.out] at HNC ⊢
          rintro e w16 ⟨rfl, g16⟩
          clear qce0 qce1 qce2 qce3
          replace OM := Lib.hid (own_G OM.out g16)
          replace O3 := Lib.hid (own_G O3.out g16)
          replace S3 := Lib.hid (own_G S3.out g16)
          replace O5 := Lib.hid (own_G O5.out g16)
          replace S5 := Lib.hid (own_G S5.out g16)
          replace O7 := Lib.hid (own_G O7.out g16)
          replace S7 := Lib.hid (own_G S7.out g16)
          replace O11 := Lib.hid (own_G O11.out g16)
          replace L13 := Lib.hid (own_G L13.out g16)
          replace L14 := Lib.hid (own_G L14.out g16)
          replace cp0 := Lib.hid (g16.cell cp0.out)
          replace cp1 := Lib.hid (g16.cell cp1.out)
          replace cp2 := Lib.hid (g16.cell cp2.out)
          replace cp3 := Lib.hid (g16.cell cp3.out)
          replace ca0 := Lib.hid (g16.cell ca0.out)
          replace ca1 := Lib.hid (g16.cell ca1.out)
          replace ca2 := Lib.hid (g16.cell ca2.out)
          replace ca3 := Lib.hid (g16.cell ca3.out)
          replace cd0 := Lib.hid (g16.cell cd0.out)
          replace cd1 := Lib.hid (g16.cell cd1.out)
          replace cd2 := Lib.hid (g16.cell cd2.out)
          replace cd3 := Lib.hid (g16.cell cd3.out)
          replace ce0 := Lib.hid (g16.cell ce0.out)
          replace ce1 := Lib.hid (g16.cell ce1.out)
          replace ce2 := Lib.hid (g16.cell ce2.out)
          replace ce3 := Lib.hid (g16.cell ce3.out)
          replace cs0 := Lib.hid (g16.cell cs0.out)
          replace cs1 := Lib.hid (g16.cell cs1.out)
          replace cs2 := Lib.hid (g16.cell cs2.out)
          replace cs3 := Lib.hid (g16.cell cs3.out)
          have G16 := Lib.hid (G15.out.trans g16)
          clear g16 G15
          rcases HNC with rfl | ⟨kc, x, rfl, hx, hge, hlt⟩
          · dsimp only
            go_wp2
            go_ret
            exact ⟨ret_bool (by first | rfl | (simp; done) | (simp; omega)), G16.out⟩
          · dsimp only
            have hkm := (List.getElem?_eq_some_iff.1 hx).1
            obtain ⟨b', o, x', hA', hx', -, hc1, -⟩ := (rd_own (by decide) cCue_len OM.out).Cue (k := kc) hkm
            obtain ⟨rfl, rfl⟩ : b = b' ∧ 0 = o := by simpa using hA'
            rw [hx] at hx'
            obtain rfl : x = x' := Option.some.inj hx'
            simp only [Nat.zero_add] at hc1
            have q0 := cellR cp0.out
            have q1 := cellR ce1.out
            have q2 := cellR hc1
            have f0 : decide ((0 : Int) ≤ (kc : Int)) = true := by simp
            have f1 : decide ((kc : Int) < (M.length : Int)) = true := by simp; omega
            have f1b : (kc : Int) < (M.length : Int) := by omega
            have f0b : (0 : Int) ≤ (kc : Int) := by omega
            have f2 : decide (t2 ≤ x.Time) = true := decide_eq_true hge
            have HLT := Lib.hid hlt
            clear hx hx' hA' hc1 hge hlt
            by_cases hz : kc = 0
            · have f3 : ((kc : Int) == 0) = true := by simp [hz]
              clear hz
              go_wp2
              refine region_quiet_G (by kernel_rfl) (by kernel_rfl) ?_; (repeat (go_big_quiet_step ((fail)))); refine wpQuiet_nil ?_
              intro wz gz
              have GZ := Lib.hid (G16.out.trans gz)
              clear gz q0 q1 q2
              go_wp2
              go_ret
              exact ⟨ret_bool (by first | rfl | (simp; done) | (simp; omega)), GZ.out⟩
            · obtain ⟨j, HJ⟩ : ∃ j, Hid (kc = j + 1) := ⟨kc - 1, Lib.hid (by omega)⟩
              have f3 : ((kc : Int) == 0) = false := by simp [hz]
              have hjm : j < M.length := by have := HJ.out; omega
              obtain ⟨b', o, y', hA', hy', -, hd1, -⟩ := (rd_own (by decide) cCue_len OM.out).Cue (k := j) hjm
              obtain ⟨rfl, rfl⟩ : b = b' ∧ 0 = o := by simpa using hA'
              have f4 : decide (y'.Time < t2) = true := decide_eq_true (HLT.out j y' HJ.out hy')
              simp only [Nat.zero_add] at hd1
              have q3 := cellR hd1
              have f5 : IntKind.i64.wrap ((kc : Int) - 1) = (j : Int) := by rw [show (kc : Int) - 1 = (j : Int) by have h2 := HJ.out; omega]; exact IntWalk.i64_in _ (by omega)
              have f6 : (0 : Int) ≤ (j : Int) := by omega
              have f7 : (j : Int) < (M.length : Int) := by omega
              clear hz hA' hy' hd1
              go_wp2
              refine region_quiet_G (by kernel_rfl) (by kernel_rfl) ?_; (repeat (go_big_quiet_step ((fail)))); refine wpQuiet_nil ?_
              intro wz gz
              have GZ := Lib.hid (G16.out.trans gz)
              clear gz q0 q1 q2 q3
              go_wp2
              go_ret
              exact ⟨ret_bool (by first | rfl | (simp; done) | (simp; omega)), GZ.out⟩
end Go.Proofs.Ytecakcgkibemaaa
