/-
  Walks: the targets of cues (sorted, then each once), by the program's text.
-/
import Derived.Test.YtecakcgkibemaaaTgtM
import Derived.Test.YtecakcgkibemaaaShelf
import Derived.Test.YtecakcgkibemaaaStrs
import Derived.Test.YtecakcgkibemaaaSwitch
import Derived.Lib.OwnBridge
import Derived.Lib.AppendIntMem
namespace Go.Proofs.Ytecakcgkibemaaa
open Go.RowKit Go.Sort Go.Lib

theorem flat_sv (M : List ByteArray) : M.flatMap sv = (M.map (·.data.toList)).map Proofs.encStr := by
  rw [Lib.map_encStr]
  induction M with
  | nil => rfl
  | cons x M ih => rw [List.flatMap_cons, ih]; rfl
def sortB (zs : List (List UInt8)) : List (List UInt8) := zs.mergeSort fun x y => decide (x ≤ y)

theorem sort_own {B n c : Nat} {A : Option Addr} {zs : List (List UInt8)} (w : World) (h : w.ownsRow B 9 1 (.slice A n c) n (zs.map Proofs.encStr)) (hb : n ≤ 4194304) :
    Calls Try.prog 34 #[.slice A n c] w fun e w' => e = .returned (.tuple #[]) ∧ w'.ownsRow B 9 1 (.slice A n c) n ((sortB zs).map Proofs.encStr) ∧ Below B w w' := by
  rcases h.2 with ⟨e0, en⟩ | ⟨g, cap, cur, e0, _⟩
  · have hz : zs.length = n := by simpa using h.1
    injection e0 with e1 e2 e3
    subst e1; subst e2; subst e3
    obtain rfl : zs = [] := List.length_eq_zero_iff.1 hz
    refine (Try.slices_Sort_string_none none 0 w).mono ?_
    rintro e w' ⟨rfl, rfl⟩
    exact ⟨rfl, by simpa [sortB] using h, Below.refl _ _⟩
  · obtain ⟨g, cap, e1, hB, hlt, hnc, hcm, hl, hH⟩ := Lib.holds_of_ownsRow h (by rw [e0]; simp)
    injection e1 with e1 e2 e3
    subst e1; subst e3
    subst hl
    refine (Try.slices_Sort_string g 0 c zs w hH hlt (by omega)).mono ?_
    rintro e w' ⟨rfl, q, os, rfl⟩
    have ho := Lib.ownsRow_putRow (q := q) (k := zs.length) (ys := sortB zs) h (by simp [sortB]) (Nat.le_refl _)
    rw [List.take_of_length_le (by simp [sortB])] at ho
    refine ⟨rfl, Lib.ownsRow_grow ho 0 os, ?_⟩
    have h1 := Lib.below_putRow (q := q) (d := (sortB zs).toArray) (enc := Proofs.encStr) (Below.refl B w) hB
    exact Below.trans h1 (Lib.below_grow B _ (Nat.le_trans hB (Nat.le_trans (Nat.le_of_lt hlt) h1.size)) 0 os)
theorem compact_own {B n c : Nat} {A : Option Addr} {zs : List (List UInt8)} (w : World) (h : w.ownsRow B 9 1 (.slice A n c) n (zs.map Proofs.encStr)) (hb : n ≤ 4194304) :
    Calls Try.prog 35 #[.slice A n c] w fun e w' => ∃ A' c', e = .returned (.slice A' (Lib.compact zs).length c') ∧ w'.ownsRow B 9 1 (.slice A' (Lib.compact zs).length c') (Lib.compact zs).length ((Lib.compact zs).map Proofs.encStr) ∧ Below B w w' := by
  rcases h.2 with ⟨e0, en⟩ | ⟨g, cap, cur, e0, _⟩
  · have hz : zs.length = n := by simpa using h.1
    injection e0 with e1 e2 e3
    subst e1; subst e2; subst e3
    obtain rfl : zs = [] := List.length_eq_zero_iff.1 hz
    refine (Try.slices_Compact_string_empty none 0 w).mono ?_
    rintro e w' ⟨rfl, rfl⟩
    exact ⟨none, 0, rfl, h, Below.refl _ _⟩
  · obtain ⟨g, cap, e1, hB, hlt, hnc, hcm, hl, hH⟩ := Lib.holds_of_ownsRow h (by rw [e0]; simp)
    injection e1 with e1 e2 e3
    subst e1; subst e3
    subst hl
    refine (Try.slices_Compact_string g 0 c zs w hH (by omega) hnc).mono ?_
    rintro e w' ⟨rfl, q, rfl⟩
    have hle := Lib.compact_length_le zs
    have ho := Lib.ownsRow_putRow (q := q) (k := (Lib.compact zs).length) (ys := Lib.compact zs ++ List.replicate (zs.length - (Lib.compact zs).length) []) h (by rw [List.length_append, List.length_replicate]; omega) hle
    rw [List.take_left] at ho
    exact ⟨_, _, rfl, ho, Lib.below_putRow (Below.refl B w) hB⟩

set_option maxRecDepth 20000 in
set_option maxHeartbeats 4000000 in
theorem TargetsOf_any (A : Option Addr) (n c : Nat) (L : List SCue) (w : World) (hr : Rd w A 6 cCue L) (hn : L.length = n) (hb : n ≤ 4194304) (hcap : n ≤ c) (hwf : ∀ x ∈ L, WfCue x) (hv : vcus L = true) :
    Calls Try.prog 21 #[.slice A n c] w (Res w 9 1 sv (tgN L, 0)) := by
  obtain ⟨i0, hi, hz0, hz1, hz2⟩ := info_parts infoString
  have HI := Lib.hid (And.intro hi (And.intro hz0 (And.intro hz1 hz2)))
  clear hi hz0 hz1 hz2
  have K := Lib.hid (ValidCues_any A n c L w hr hn hb hcap hwf)
  have Hn := Lib.hid hn
  have HR := Lib.hid hr
  have hn32 := vcus_len hv
  rw [hn] at hn32
  rw [hv] at K
  clear hr hn hwf hv
  go_enter Try.func21, Try.ntmps21
  go_wp2_with (go_at_call 33; refine K.out.mono ?_; rintro e w1 ⟨rfl, g1⟩; have G1 := Lib.hid g1; clear g1)
  clear K
  go_loopw [4, 12] (fun v i wr => ∃ (k : Nat), k ≤ n ∧ i = .int .i64 k ∧ Hid (wr.ownsRow w.heap.size 9 1 v k (((L.take k).map SCue.Target).flatMap sv)) ∧ Hid (G w wr)) (fun _ i _ => n - (intOf i).toNat)
  case atStart => exact ⟨0, Nat.zero_le _, rfl, Lib.hid (World.ownsRow_nil _ _ _ _), G1⟩
  case round =>
    obtain ⟨k, hk, rfl, HO1, G0⟩ := hrel
    have hsz := G0.out.size
    by_cases hlt : k < n
    · obtain ⟨b, o, x, rfl, hx, hc0, hc1, hc2, hc3, hc4, hc5⟩ := (HR.out.G G0.out).Cue (k := k) (by rw [Hn.out]; exact hlt)
      have HS2 := Lib.hid (show ((L.take (k + 1)).map SCue.Target) = (L.take k).map SCue.Target ++ [x.Target] by rw [take_snoc hx]; simp)
      clear hx
      go_wp2_with (at_builtin; refine wpList_append_own _ rfl (.tmp 16) (.tmp 19) 29 rfl w.heap.size 9 i0 (.string ⟨#[]⟩) 1 16 Try.underlying29 HI.out.1 HI.out.2.1 HI.out.2.2.1 HI.out.2.2.2 rfl (by decide) _ k _ rfl ((HO1.out.alloc _).alloc _) ⟨wr.heap.size + 1, 0, none⟩ 1 1 [.string x.Target] rfl rfl ?c4 (str_oneCell x.Target) ?c1 ?c2 ?c3 ?_)
      case c1 => unfold maxLen; omega
      case c2 => omega
      case c3 => first | omega | (simp; omega)
      case c4 => exact (by have := block_news (wr.alloc (.cells (cCue x).toArray 44)) [.string x.Target] 9; simpa [cCue] using this)
      intro v' w1 hown hgrow _
      have HO2 := Lib.hid (show w1.ownsRow w.heap.size 9 1 v' (k + 1) (((L.take (k + 1)).map SCue.Target).flatMap sv) by rw [HS2.out, List.flatMap_append]; simpa [sv] using hown)
      have G2 := Lib.hid (((G0.out.alloc _).alloc _).grown hgrow (own_block_of HO1.out))
      clear hown hgrow
      go_wp2
      go_roundw
      case rel => exact ⟨k + 1, by omega, by go_num, HO2, G2⟩
      case measure => simp [intOf]; omega
    · obtain rfl : k = n := by omega
      have HTK := Lib.hid (show L.take k = L from List.take_of_length_le (by rw [Hn.out]; omega))
      rw [HTK.out, flat_sv] at HO1
      obtain ⟨A', c', rfl⟩ := own_val HO1.out
      have KS := Lib.hid (sort_own wr HO1.out (by omega))
      go_wp2_with fail
      refine KS.out.mono ?_
      rintro e w1 ⟨rfl, o1, b1⟩
      have G1 := Lib.hid (Below.trans G0.out (Below.mono b1 (Nat.le_refl _)))
      have KC := Lib.hid (compact_own w1 o1 (by omega))
      clear o1 b1 KS
      dsimp only
      go_wp2_with fail
      refine KC.out.mono ?_
      rintro e w2 ⟨A2, c2, rfl, o2, b2⟩
      have HE := Lib.hid (show Lib.compact (sortB ((L.map SCue.Target).map (·.data.toList))) = (tgN L).map (·.data.toList) by rw [List.map_map]; exact sorted_tgN L)
      rw [HE.out, ← flat_sv, List.length_map] at o2
      rw [HE.out, List.length_map]
      have HO2 := Lib.hid o2
      have G2 := Lib.hid (Below.trans G1.out b2)
      clear o2 b2 KC
      dsimp only
      go_wp2
      go_ret2
      exact res_own rfl rfl HO2.out G2.out
end Go.Proofs.Ytecakcgkibemaaa
