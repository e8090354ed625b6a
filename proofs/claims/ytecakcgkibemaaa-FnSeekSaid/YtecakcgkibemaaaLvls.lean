/-
  Walks: LevelsOf, by both texts.
-/
import Derived.Test.YtecakcgkibemaaaTgt2
import Derived.Test.YtecakcgkibemaaaLev2
import Derived.Test.YtecakcgkibemaaaStLevel
import Derived.Test.YtecakcgkibemaaaRemain
import Derived.Deep.RegionHeld3
import Derived.Deep.AppendLies
import Derived.Deep.DrawnRows
namespace Go.Proofs.Ytecakcgkibemaaa
open Go.RowKit

def lvsL (L : List SCue) (t : Int) : List SLevel := (tgN L).map fun tg => ⟨tg, lvl L tg t L.length⟩
def lvsR (L : List SCue) (t r : Int) : List SLevel × Int := if vplB L t r = false then ([], 1) else (lvsL L t, 0)
theorem lvsL_len (L : List SCue) (t : Int) : (lvsL L t).length = (tgN L).length := by simp [lvsL]
theorem lvsR_len (L : List SCue) (t r : Int) : (lvsR L t r).1.length ≤ L.length := by
  unfold lvsR
  split
  · simp
  · rw [lvsL_len]; exact tgN_len L
theorem lvsL_at {L : List SCue} {t : Int} {k : Nat} {tg : ByteArray} (h : (tgN L)[k]? = some tg) : (lvsL L t)[k]? = some ⟨tg, lvl L tg t L.length⟩ := map_at h
theorem cLevel_one1 (x : SLevel) : ∀ u ∈ cLevel x, u.oneCell' = true := by
  intro u hu
  simp only [cLevel, List.mem_cons, List.not_mem_nil, or_false] at hu
  rcases hu with rfl | rfl <;> rfl

set_option maxRecDepth 20000 in
set_option maxHeartbeats 4000000 in
theorem iLevelsOf_any (A : Option Addr) (n c : Nat) (t r : Int) (p : Bool) (L : List SCue) (w : World) (hr : Rd w A 6 cCue L) (hn : L.length = n) (hb : n ≤ 4194304) (hcap : n ≤ c) (hwf : ∀ x ∈ L, WfCue x) :
    Calls Try.prog 10 #[pV A n c t r p] w (Res w 41 2 cLevel (lvsR L t r)) := by
  obtain ⟨i0, hi, hz0, hz1, hz2⟩ := info_parts infoLevel
  have HI := Lib.hid (And.intro hi (And.intro hz0 (And.intro hz1 hz2)))
  clear hi hz0 hz1 hz2
  have KV := Lib.hid (fun (W : World) (g : G w W) => iValidPlayer_any A n c t r p L W (hr.G g) hn hb hcap hwf)
  have B0 := Lib.hid ((G.refl w).alloc (.cells #[.slice A n c, .int .i64 t, .int .i64 r, .bool p] 26))
  have d0 : (w.alloc (.cells #[.slice A n c, .int .i64 t, .int .i64 r, .bool p] 26)).cell? ⟨w.heap.size, 0, none⟩ = some (.slice A n c) := (World.cell?_alloc_at _ _ _ 0 rfl).trans rfl
  have d1 : (w.alloc (.cells #[.slice A n c, .int .i64 t, .int .i64 r, .bool p] 26)).cell? ⟨w.heap.size, 1, none⟩ = some (.int .i64 t) := (World.cell?_alloc_at _ _ _ 1 rfl).trans rfl
  have d2 : (w.alloc (.cells #[.slice A n c, .int .i64 t, .int .i64 r, .bool p] 26)).cell? ⟨w.heap.size, 2, none⟩ = some (.int .i64 r) := (World.cell?_alloc_at _ _ _ 2 rfl).trans rfl
  have d3 : (w.alloc (.cells #[.slice A n c, .int .i64 t, .int .i64 r, .bool p] 26)).cell? ⟨w.heap.size, 3, none⟩ = some (.bool p) := (World.cell?_alloc_at _ _ _ 3 rfl).trans rfl
  unfold pV
  cases hv : vplB L t r
  · have H := Lib.hid (show lvsR L t r = ([], 1) by unfold lvsR; rw [if_pos hv])
    have HV := Lib.hid hv
    clear hv hr hn hwf hcap
    go_enter Try.func10, Try.ntmps10
    go_wp2_with fail
    refine (KV.out _ B0.out).mono ?_
    rintro e w1 ⟨rfl, g1⟩
    have G1 := Lib.hid (B0.out.trans g1)
    replace d0 := g1.cell d0
    replace d1 := g1.cell d1
    replace d2 := g1.cell d2
    replace d3 := g1.cell d3
    clear g1 B0
    rw [HV.out]
    dsimp only
    go_wp2
    go_ret2
    exact res_nil H.out G1.out
  have H := Lib.hid (show lvsR L t r = (lvsL L t, 0) by unfold lvsR; rw [if_neg (by rw [hv]; simp)])
  obtain ⟨hvc, hb0, hb1, hb2, hb3, hb4⟩ := vplB_bd hv
  have KT := Lib.hid (fun (W : World) (g : G w W) => TargetsOf_any A n c L W (hr.G g) hn hb hcap hwf hvc)
  have KL := Lib.hid (fun (W : World) (g : G w W) (tg : ByteArray) => levelAt_any A n c L tg t W (hr.G g) hn hcap hvc hb0 (by omega))
  have hn32 := vcus_len hvc
  have hm32 := tgN_len L
  rw [hn] at hn32 hm32
  have HV := Lib.hid hv
  have Hn := Lib.hid hn
  clear hv hvc hr hn hwf hcap
  obtain ⟨T, HT⟩ : ∃ T, Hid (tgN L = T) := ⟨_, rfl⟩
  rw [HT.out] at hm32
  go_enter Try.func10, Try.ntmps10
  go_wp2_with fail
  refine (KV.out _ B0.out).mono ?_
  rintro e w1 ⟨rfl, g1⟩
  have G1 := Lib.hid (B0.out.trans g1)
  replace d0 := g1.cell d0
  replace d1 := g1.cell d1
  replace d2 := g1.cell d2
  replace d3 := g1.cell d3
  clear g1 B0
  rw [HV.out]
  dsimp only
  go_wp2_with fail
  refine (KT.out _ G1.out).mono ?_
  rw [HT.out]
  rintro e w2 ⟨A', c', rfl, g2, o2⟩
  have s1 := G1.out.size
  have G2 := Lib.hid (G1.out.trans g2)
  replace d0 := g2.cell d0
  replace d1 := g2.cell d1
  replace d2 := g2.cell d2
  replace d3 := g2.cell d3
  have RT := Lib.hid (rd_strs o2)
  clear g2 o2
  dsimp only
  go_wp2
  obtain ⟨m, HTL⟩ : ∃ m, Hid (T.length = m) := ⟨_, rfl⟩
  rw [HTL.out] at hm32
  try rw [HTL.out]
  go_loopw [6, 20] (fun v i wr => ∃ (k : Nat), k ≤ m ∧ i = .int .i64 k ∧ Hid (wr.ownsRow w2.heap.size 41 2 v k (((lvsL L t).take k).flatMap cLevel)) ∧ Hid (G w2 wr)) (fun _ i _ => m - (intOf i).toNat)
  case atStart => exact ⟨0, Nat.zero_le _, rfl, Lib.hid (World.ownsRow_nil _ _ _ _), Lib.hid (G.refl _)⟩
  case round =>
    obtain ⟨k, hk, rfl, HO, G3⟩ := hrel
    have s2 := G2.out.size
    have s3 := G3.out.size
    by_cases hlt : k < m
    · obtain ⟨b, o, tg, rfl, hx, hc0⟩ := (RT.out.G G3.out).str (k := k) (by rw [HTL.out]; exact hlt)
      obtain ⟨v, HVL⟩ : ∃ v, Hid (lvl L tg t n = v) := ⟨_, rfl⟩
      have HS := Lib.hid (flat_snoc (f := cLevel) (show (lvsL L t)[k]? = some ⟨tg, v⟩ by rw [← HVL.out, ← Hn.out]; exact lvsL_at (by rw [HT.out]; exact hx)))
      have KL2 := Lib.hid (KL.out wr (G2.out.trans G3.out) tg)
      rw [HVL.out] at KL2
      have f0 := G3.out.cell d0
      have f1 := G3.out.cell d1
      clear hx
      go_wp2_with fail
      refine KL2.out.mono ?_
      rintro e w4 ⟨rfl, g4⟩
      have G4 := Lib.hid (G3.out.trans g4)
      have O4 := Lib.hid (own_G HO.out g4)
      have s4 := g4.size
      clear g4 f0 f1 hc0
      dsimp only
      go_wp2_with (at_builtin; refine wpList_append_own _ rfl (.tmp 24) (.tmp 33) 35 rfl w2.heap.size 41 i0 (.agg #[.string ⟨#[]⟩, .int .i64 0]) 2 24 Try.underlying35 HI.out.1 HI.out.2.1 HI.out.2.2.1 HI.out.2.2.2 rfl (by decide) _ k _ rfl (O4.out.alloc _) ⟨w4.heap.size, 0, none⟩ 1 1 (cLevel ⟨tg, v⟩) rfl rfl (block_news _ (cLevel ⟨tg, v⟩) _) (cLevel_one1 _) ?c1 ?c2 ?c3 ?_)
      case c1 => unfold maxLen; omega
      case c2 => omega
      case c3 => simp; omega
      intro v' w5 hown hgrow _
      have O5 := Lib.hid (show w5.ownsRow w2.heap.size 41 2 v' (k + 1) (((lvsL L t).take (k + 1)).flatMap cLevel) by rw [← HS.out]; exact hown)
      have G5 := Lib.hid (show G w2 w5 from (G4.out.alloc _).grown hgrow (own_block_of O4.out))
      clear hown hgrow
      go_wp2
      go_roundw
      case rel => exact ⟨k + 1, by omega, by go_num, O5, G5⟩
      case measure => simp [intOf]; omega
    · obtain rfl : k = m := by omega
      have HL := Lib.hid (show (lvsL L t).take k = lvsL L t from List.take_of_length_le (by rw [lvsL_len, HT.out, HTL.out]; exact Nat.le_refl _))
      rw [HL.out] at HO
      go_wp2
      go_ret2
      exact res_own H.out (by rw [lvsL_len, HT.out, HTL.out]) (HO.out.mono G2.out.size) (G2.out.trans G3.out)

end Go.Proofs.Ytecakcgkibemaaa
