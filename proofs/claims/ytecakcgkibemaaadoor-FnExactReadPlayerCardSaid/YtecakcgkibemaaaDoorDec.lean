/-
  Walks: the decimal text of a number, by the reference's text.
-/
import Derived.Test.YtecakcgkibemaaaDoorRes
import Derived.Test.YtecakcgkibemaaaDoorBase
import Derived.Lib.ItoaNum
import Derived.Lib.ItoaLen
import Derived.Lib.SlBytesRow
namespace Go.Proofs.YtecakcgkibemaaaDoor
open Go.RowKit

/-- A byte: one cell. -/
def uv (x : UInt8) : List Value := [.int .u8 (x.toNat : Int)]
theorem uv_one (x : UInt8) : ∀ u ∈ uv x, u.oneCell' = true := by
  intro u hu
  simp only [uv, List.mem_singleton] at hu
  subst hu
  rfl
theorem infoByte : (Tryd.prog.info? 5).map (fun i => (i.zero, i.size, i.bytes)) = some (some (.int .u8 0), 1, 1) := by kernel_rfl
theorem flat_uv (L : List UInt8) : L.flatMap uv = L.map fun x => Value.int .u8 (x.toNat : Int) := by
  induction L with
  | nil => rfl
  | cons y L ih => rw [List.flatMap_cons, ih]; rfl
theorem flat_uv_at {L : List UInt8} {k : Nat} {x : UInt8} (h : L[k]? = some x) : (L.flatMap uv)[k]? = some (.int .u8 (x.toNat : Int)) := by rw [flat_uv, List.getElem?_map, h]; rfl
/-- The digits, the last ahead; none for 0. -/
def revD (u : Nat) : List UInt8 := if h : u = 0 then [] else UInt8.ofNat (48 + u % 10) :: revD (u / 10)
termination_by u
decreasing_by omega
theorem revD_zero : revD 0 = [] := by rw [revD, dif_pos rfl]
theorem revD_pos {u : Nat} (h : 0 < u) : revD u = UInt8.ofNat (48 + u % 10) :: revD (u / 10) := by rw [revD, dif_neg (by omega)]
theorem revD_dec (u : Nat) (h : 0 < u) : (revD u).reverse = Lib.decDigits u := by
  induction u using Nat.strongRecOn with
  | _ u ih =>
    rw [revD_pos h, List.reverse_cons]
    by_cases h1 : u < 10
    · rw [show u / 10 = 0 by omega, revD_zero, Lib.decDigits_one h1, show u % 10 = u by omega]
      rfl
    · rw [ih (u / 10) (by omega) (by omega)]
      conv => rhs; rw [Lib.decDigits, dif_neg h1]
theorem revD_len (u : Nat) (h : u < 18446744073709551616) : (revD u).length ≤ 20 := by
  by_cases h0 : u = 0
  · subst h0; rw [revD_zero]; simp
  · rw [← List.length_reverse, revD_dec u (by omega), Lib.decDigits_length]
    exact Lib.nDigits_le20 u h
theorem dig_byte (k : Nat) : ((UInt8.ofNat (48 + k % 10)).toNat : Int) = 48 + ((k % 10 : Nat) : Int) := by
  rw [UInt8.toNat_ofNat', Nat.mod_eq_of_lt (by omega)]
  omega
theorem itoa_pos {n : Nat} : Lib.itoa (n : Int) = Lib.decDigits n := by unfold Lib.itoa; rw [if_neg (by omega), Int.toNat_natCast]
theorem itoa_neg {n : Nat} (h : 0 < n) : Lib.itoa (-(n : Int)) = 45 :: Lib.decDigits n := by unfold Lib.itoa; rw [if_pos (by omega), Int.natAbs_neg, Int.natAbs_natCast]
theorem bytes_own {w : World} {B T n c g : Nat} {L : List UInt8} (h : w.ownsRow B T 1 (.slice (some ⟨g, 0, none⟩) n c) n (L.flatMap uv)) : Lib.Bytes w g 0 ⟨L.toArray⟩ := fun i hi => by
  have hi2 : i < L.length := hi
  rw [Nat.zero_add]
  have := own_cellAt_mid h (flat_uv_at (List.getElem?_eq_getElem hi2))
  rw [this]
  rfl
theorem own_head {w : World} {B T sz n c : Nat} {A : Option Addr} {xs : List Value} (h : w.ownsRow B T sz (.slice A n c) n xs) (hn : 0 < n) : ∃ b, A = some ⟨b, 0, none⟩ := by
  rcases h.2 with ⟨_, h0⟩ | ⟨g, cap, cur, e, _⟩
  · omega
  · simp only [Value.slice.injEq] at e
    exact ⟨g, e.1⟩
theorem own_sl {w : World} {B T sz n : Nat} {v : Value} {xs : List Value} (h : w.ownsRow B T sz v n xs) : ∃ A c, v = .slice A n c ∧ n ≤ c := by
  rcases h.2 with ⟨rfl, rfl⟩ | ⟨g, cap, cur, rfl, _, _, h1, _⟩
  · exact ⟨_, _, rfl, Nat.le_refl _⟩
  · exact ⟨_, _, rfl, h1⟩

set_option maxRecDepth 20000 in
set_option maxHeartbeats 4000000 in
theorem l01Dec_any (n : Int) (h0 : -9223372036854775808 ≤ n) (h1 : n ≤ 9223372036854775807) (w : World) :
    Calls Tryd.prog 35 #[.int .i64 n] w fun e w' => e = .returned (.string ⟨(Lib.itoa n).toArray⟩) ∧ G w w' := by
  obtain ⟨i0, hi, hz0, hz1, hz2⟩ := info_parts infoByte
  have HI := Lib.hid (And.intro hi (And.intro hz0 (And.intro hz1 hz2)))
  clear hi hz0 hz1 hz2
  by_cases c0 : n = 0
  · subst c0
    have H := Lib.hid (show Lib.itoa 0 = [48] by decide +kernel)
    go_enter Tryd.func35, Tryd.ntmps35
    go_wp2
    go_ret
    exact ⟨by rw [H.out]; rfl, G.refl _⟩
  by_cases c1 : 0 < n
  · obtain ⟨u, rfl⟩ : ∃ u : Nat, n = u := ⟨n.toNat, by omega⟩
    have hu : 0 < u := by omega
    have OE := Lib.hid (World.ownsRow_lit (e := 5) (base := w.heap.size) (size := 1) w #[] 0 (Nat.le_refl _) (by unfold maxLen; omega) rfl)
    have GE := Lib.hid ((G.refl w).alloc (.cells #[] 5))
    go_enter Tryd.func35, Tryd.ntmps35
    go_wp2
    go_loopw [3, 4] (fun v i wr => ∃ (x : Nat) (D : List UInt8), x ≤ u ∧ i = .int .i64 (x : Int) ∧ D.length ≤ 20 ∧ Hid (D ++ revD x = revD u) ∧ Hid (wr.ownsRow w.heap.size 5 1 v D.length (D.flatMap uv)) ∧ Hid (G w wr)) (fun _ i _ => (intOf i).natAbs)
    case atStart => exact ⟨u, [], Nat.le_refl _, rfl, by simp, Lib.hid rfl, OE, GE⟩
    case round =>
      clear OE GE
      obtain ⟨x, D, hxu, rfl, hDl, HDR, HD, G0⟩ := hrel
      have HSZ := Lib.hid G0.out.size
      have hsz := G0.out.size
      by_cases hx0 : 0 < x
      · have e1 : Int.tmod (x : Int) 10 = ((x % 10 : Nat) : Int) := by exact (Int.ofNat_tmod x 10).symm
        have e2 : Int.tdiv (x : Int) 10 = ((x / 10 : Nat) : Int) := by exact (Int.ofNat_tdiv x 10).symm
        have eb := dig_byte x
        have hr1 : x % 10 < 10 := by omega
        have HST := Lib.hid (show (D ++ [UInt8.ofNat (48 + x % 10)]) ++ revD (x / 10) = revD u by rw [← HDR.out, revD_pos hx0, List.append_assoc]; rfl)
        have hD19 : D.length ≤ 19 := by
          have h := congrArg List.length HST.out
          have := revD_len u (by omega)
          simp only [List.length_append, List.length_singleton] at h
          omega
        obtain ⟨y, HY⟩ : ∃ y, Hid (UInt8.ofNat (48 + x % 10) = y) := ⟨_, rfl⟩
        obtain ⟨q, HQ⟩ : ∃ q, Hid (x % 10 = q) := ⟨_, rfl⟩
        rw [HQ.out] at e1 hr1
        rw [HQ.out, ← HQ.out, HY.out, HQ.out] at eb
        rw [HY.out] at HST
        have hqy : 48 + (q : Int) = (y.toNat : Int) := eb.symm
        have hq0 : (0 : Int) ≤ (q : Int) := by omega
        have hq9 : (q : Int) ≤ 9 := by omega
        clear eb
        go_wp2_with (at_builtin; refine wpList_append_own _ rfl (.tmp 22) (.tmp 26) 80 rfl (w.heap.size) 5 i0 (.int .u8 0) 1 1 Tryd.underlying80 HI.out.1 HI.out.2.1 HI.out.2.2.1 HI.out.2.2.2 rfl (by decide) _ D.length _ rfl (HD.out.alloc _) ⟨wr.heap.size, 0, none⟩ 1 1 (uv y) rfl rfl (block_news _ (uv y) _) (uv_one _) ?c1 ?c2 ?c3 ?_)
        case c1 => unfold maxLen; omega
        case c2 => omega
        case c3 => first | omega | (simp; omega)
        intro v' w4 hown hgrow _
        have gx := (G.refl wr).alloc (.cells (uv y).toArray 5)
        have O4 := Lib.hid (show w4.ownsRow w.heap.size 5 1 v' (D ++ [y]).length ((D ++ [y]).flatMap uv) by rw [List.length_append, List.flatMap_append]; simpa using hown)
        have G4 := Lib.hid ((G0.out.trans gx).grown hgrow (own_block_of HD.out))
        clear hown hgrow gx
        go_wp2
        go_roundw
        case rel => exact ⟨x / 10, D ++ [y], by omega, by first | rfl | go_num, by simp; omega, HST, O4, G4⟩
        case measure => first | (simp [intOf]; done) | (simp [intOf]; omega)
      · obtain rfl : x = 0 := by omega
        rw [revD_zero, List.append_nil] at HDR
        have hpos : 0 < D.length := by rw [HDR.out]; rw [revD_pos hu]; simp
        have HEND := Lib.hid (show D.reverse = Lib.decDigits u by rw [HDR.out]; exact revD_dec u hu)
        have HIT := Lib.hid (show (D.reverse : List UInt8) = Lib.itoa (u : Int) by rw [HEND.out, itoa_pos])
        replace HEND := HIT
        clear HIT
        have OE2 := Lib.hid (World.ownsRow_lit (e := 5) (base := wr.heap.size) (size := 1) wr #[] 0 (Nat.le_refl _) (by unfold maxLen; omega) rfl)
        have GE2 := Lib.hid ((G.refl wr).alloc (.cells #[] 5))
        obtain ⟨AD, cD, rfl, hcD⟩ := own_sl HD.out
        obtain ⟨gD, rfl⟩ := own_head HD.out hpos
        obtain ⟨wo, rfl⟩ : ∃ wo : World, wo = wr := ⟨_, rfl⟩
        go_wp2
        go_loopw [6, 7] (fun v i wr => ∃ (k : Nat), k ≤ D.length ∧ i = .int .i64 ((k : Int) - 1) ∧ Hid (wr.ownsRow wo.heap.size 5 1 v (D.drop k).reverse.length ((D.drop k).reverse.flatMap uv)) ∧ Hid (G wo wr)) (fun _ i _ => (intOf i + 1).toNat)
        case atStart => exact ⟨D.length, Nat.le_refl _, rfl, by rw [List.drop_length]; exact OE2, GE2⟩
        case round =>
          clear OE2 GE2
          obtain ⟨k, hk, rfl, HO, G1⟩ := hrel
          have hsz1 := G1.out.size
          have HD3 := Lib.hid (own_G HD.out G1.out)
          by_cases h0 : k = 0
          · subst h0
            obtain ⟨E, HE⟩ : ∃ E, Hid ((D.drop 0).reverse = E) := ⟨_, rfl⟩
            rw [HE.out] at HO
            have hEp : 0 < E.length := by rw [← HE.out]; simpa using hpos
            have HEE := Lib.hid (show E = Lib.itoa (u : Int) by rw [← HE.out, List.drop_zero]; exact HEND.out)
            obtain ⟨A6, c6, rfl, _⟩ := own_sl HO.out
            obtain ⟨g6, rfl⟩ := own_head HO.out hEp
            have kc := Lib.run_convert_whole (P := Tryd.prog) wr 80 5 9 Tryd.underlying80 Tryd.underlying5 Tryd.underlying9 g6 0 ⟨E.toArray⟩ (bytes_own HO.out) c6
            rw [show (ByteArray.mk E.toArray).size = E.length by simp [ByteArray.size]] at kc
            go_wp2
            go_ret
            exact ⟨congrArg (fun x => Ending.returned (.string ⟨List.toArray x⟩)) HEE.out, G0.out.trans G1.out⟩
          · obtain ⟨j, rfl⟩ : ∃ j, k = j + 1 := ⟨k - 1, by omega⟩
            obtain ⟨x, hx⟩ : ∃ x, D[j]? = some x := ⟨_, List.getElem?_eq_getElem (by omega)⟩
            have hcx := own_cellAt_mid HD3.out (flat_uv_at hx)
            have HS := Lib.hid (show (D.drop j).reverse = (D.drop (j + 1)).reverse ++ [x] by
              obtain ⟨hj, rfl⟩ := List.getElem?_eq_some_iff.1 hx
              rw [List.drop_eq_getElem_cons hj, List.reverse_cons])
            have hj1 : ((j + 1 : Nat) : Int) - 1 = (j : Int) := by omega
            rw [hj1]
            have hjl : (j : Int) < (D.length : Int) := by omega
            have hj0 : (0 : Int) ≤ (j : Int) := by omega
            clear hx
            obtain ⟨E, HE⟩ : ∃ E, Hid ((D.drop (j + 1)).reverse = E) := ⟨_, rfl⟩
            have hEl : E.length ≤ 40 := by rw [← HE.out]; first | (simp; omega) | (simp; done)
            rw [HE.out] at HO HS
            go_wp2_with (at_builtin; refine wpList_append_own _ rfl (.tmp 41) (.tmp 46) 80 rfl (wo.heap.size) 5 i0 (.int .u8 0) 1 1 Tryd.underlying80 HI.out.1 HI.out.2.1 HI.out.2.2.1 HI.out.2.2.2 rfl (by decide) _ E.length _ rfl (HO.out.alloc _) ⟨wr.heap.size, 0, none⟩ 1 1 (uv x) rfl rfl (block_news _ (uv x) _) (uv_one _) ?c1 ?c2 ?c3 ?_)
            case c1 => unfold maxLen; omega
            case c2 => omega
            case c3 => first | omega | (simp; omega)
            intro v' w4 hown hgrow _
            have gx := (G.refl wr).alloc (.cells (uv x).toArray 5)
            have O4 := Lib.hid (show w4.ownsRow wo.heap.size 5 1 v' (E ++ [x]).length ((E ++ [x]).flatMap uv) by rw [List.length_append, List.flatMap_append]; simpa using hown)
            rw [← HS.out] at O4
            have G4 := Lib.hid ((G1.out.trans gx).grown hgrow (own_block_of HO.out))
            clear hown hgrow gx
            go_wp2
            go_roundw
            case rel => exact ⟨j, by omega, by go_num, O4, G4⟩
            case measure => first | (simp [intOf]; done) | (simp [intOf]; omega)
  · obtain ⟨u, rfl⟩ : ∃ u : Nat, n = -(u : Int) := ⟨n.natAbs, by omega⟩
    have hu : 0 < u := by omega
    have OE := Lib.hid (World.ownsRow_lit (e := 5) (base := w.heap.size) (size := 1) w #[] 0 (Nat.le_refl _) (by unfold maxLen; omega) rfl)
    have GE := Lib.hid ((G.refl w).alloc (.cells #[] 5))
    go_enter Tryd.func35, Tryd.ntmps35
    go_wp2
    go_loopw [3, 4] (fun v i wr => ∃ (x : Nat) (D : List UInt8), x ≤ u ∧ i = .int .i64 (-(x : Int)) ∧ D.length ≤ 20 ∧ Hid (D ++ revD x = revD u) ∧ Hid (wr.ownsRow w.heap.size 5 1 v D.length (D.flatMap uv)) ∧ Hid (G w wr)) (fun _ i _ => (intOf i).natAbs)
    case atStart => exact ⟨u, [], Nat.le_refl _, rfl, by simp, Lib.hid rfl, OE, GE⟩
    case round =>
      clear OE GE
      obtain ⟨x, D, hxu, rfl, hDl, HDR, HD, G0⟩ := hrel
      have HSZ := Lib.hid G0.out.size
      have hsz := G0.out.size
      by_cases hx0 : 0 < x
      · have e1 : Int.tmod (-(x : Int)) 10 = (-(((x % 10 : Nat) : Int) : Int)) := by rw [Int.neg_tmod]; exact congrArg Neg.neg (Int.ofNat_tmod x 10).symm
        have e2 : Int.tdiv (-(x : Int)) 10 = -((x / 10 : Nat) : Int) := by rw [Int.neg_tdiv]; exact congrArg Neg.neg (Int.ofNat_tdiv x 10).symm
        have eb := dig_byte x
        have hr1 : x % 10 < 10 := by omega
        have HST := Lib.hid (show (D ++ [UInt8.ofNat (48 + x % 10)]) ++ revD (x / 10) = revD u by rw [← HDR.out, revD_pos hx0, List.append_assoc]; rfl)
        have hD19 : D.length ≤ 19 := by
          have h := congrArg List.length HST.out
          have := revD_len u (by omega)
          simp only [List.length_append, List.length_singleton] at h
          omega
        obtain ⟨y, HY⟩ : ∃ y, Hid (UInt8.ofNat (48 + x % 10) = y) := ⟨_, rfl⟩
        obtain ⟨q, HQ⟩ : ∃ q, Hid (x % 10 = q) := ⟨_, rfl⟩
        rw [HQ.out] at e1 hr1
        rw [HQ.out, ← HQ.out, HY.out, HQ.out] at eb
        rw [HY.out] at HST
        have hqy : 48 + (q : Int) = (y.toNat : Int) := eb.symm
        have hq0 : (0 : Int) ≤ (q : Int) := by omega
        have hq9 : (q : Int) ≤ 9 := by omega
        clear eb
        by_cases hq : q = 0
        · subst hq
          have e1' : Int.tmod (-(x : Int)) 10 = 0 := by rw [e1]; rfl
          clear e1
          rw [Int.natCast_zero] at hqy
          go_wp2_with (at_builtin; refine wpList_append_own _ rfl (.tmp 22) (.tmp 26) 80 rfl (w.heap.size) 5 i0 (.int .u8 0) 1 1 Tryd.underlying80 HI.out.1 HI.out.2.1 HI.out.2.2.1 HI.out.2.2.2 rfl (by decide) _ D.length _ rfl (HD.out.alloc _) ⟨wr.heap.size, 0, none⟩ 1 1 (uv y) rfl rfl (block_news _ (uv y) _) (uv_one _) ?c1 ?c2 ?c3 ?_)
          case c1 => unfold maxLen; omega
          case c2 => omega
          case c3 => first | omega | (simp; omega)
          intro v' w4 hown hgrow _
          have gx := (G.refl wr).alloc (.cells (uv y).toArray 5)
          have O4 := Lib.hid (show w4.ownsRow w.heap.size 5 1 v' (D ++ [y]).length ((D ++ [y]).flatMap uv) by rw [List.length_append, List.flatMap_append]; simpa using hown)
          have G4 := Lib.hid ((G0.out.trans gx).grown hgrow (own_block_of HD.out))
          clear hown hgrow gx
          go_wp2
          go_roundw
          case rel => exact ⟨x / 10, D ++ [y], by omega, by first | rfl | go_num, by simp; omega, HST, O4, G4⟩
          case measure => first | (simp [intOf]; done) | (simp [intOf]; omega)
        have hqn : -(q : Int) < 0 := by omega
        go_wp2_with (at_builtin; refine wpList_append_own _ rfl (.tmp 22) (.tmp 26) 80 rfl (w.heap.size) 5 i0 (.int .u8 0) 1 1 Tryd.underlying80 HI.out.1 HI.out.2.1 HI.out.2.2.1 HI.out.2.2.2 rfl (by decide) _ D.length _ rfl (HD.out.alloc _) ⟨wr.heap.size, 0, none⟩ 1 1 (uv y) rfl rfl (block_news _ (uv y) _) (uv_one _) ?c1 ?c2 ?c3 ?_)
        case c1 => unfold maxLen; omega
        case c2 => omega
        case c3 => first | omega | (simp; omega)
        intro v' w4 hown hgrow _
        have gx := (G.refl wr).alloc (.cells (uv y).toArray 5)
        have O4 := Lib.hid (show w4.ownsRow w.heap.size 5 1 v' (D ++ [y]).length ((D ++ [y]).flatMap uv) by rw [List.length_append, List.flatMap_append]; simpa using hown)
        have G4 := Lib.hid ((G0.out.trans gx).grown hgrow (own_block_of HD.out))
        clear hown hgrow gx
        go_wp2
        go_roundw
        case rel => exact ⟨x / 10, D ++ [y], by omega, by first | rfl | go_num, by simp; omega, HST, O4, G4⟩
        case measure => first | (simp [intOf]; done) | (simp [intOf]; omega)
      · obtain rfl : x = 0 := by omega
        rw [revD_zero, List.append_nil] at HDR
        have hpos : 0 < D.length := by rw [HDR.out]; rw [revD_pos hu]; simp
        have HEND := Lib.hid (show D.reverse = Lib.decDigits u by rw [HDR.out]; exact revD_dec u hu)
        go_wp2_with (at_builtin; refine wpList_append_own _ rfl (.tmp 30) (.tmp 31) 80 rfl (w.heap.size) 5 i0 (.int .u8 0) 1 1 Tryd.underlying80 HI.out.1 HI.out.2.1 HI.out.2.2.1 HI.out.2.2.2 rfl (by decide) _ D.length _ rfl (HD.out.alloc _) ⟨wr.heap.size, 0, none⟩ 1 1 (uv 45) rfl rfl (block_news _ (uv 45) _) (uv_one _) ?c1 ?c2 ?c3 ?_)
        case c1 => unfold maxLen; omega
        case c2 => omega
        case c3 => first | omega | (simp; omega)
        intro v' w4 hown hgrow _
        have gx := (G.refl wr).alloc (.cells (uv 45).toArray 5)
        have O4 := Lib.hid (show w4.ownsRow w.heap.size 5 1 v' (D ++ [45]).length ((D ++ [45]).flatMap uv) by rw [List.length_append, List.flatMap_append]; simpa using hown)
        have G4 := Lib.hid ((G0.out.trans gx).grown hgrow (own_block_of HD.out))
        have HIT := Lib.hid (show ((D ++ [45]).reverse : List UInt8) = Lib.itoa (-(u : Int)) by rw [List.reverse_append, HEND.out, itoa_neg hu]; rfl)
        have hl21 : (D ++ [45]).length ≤ 21 ∧ 0 < (D ++ [45]).length := by simp; omega
        clear hown hgrow gx HD HEND hDl hpos
        obtain ⟨D, HDE2⟩ : ∃ D', Hid (D ++ [(45 : UInt8)] = D') := ⟨_, rfl⟩
        rw [HDE2.out] at O4 HIT hl21
        have HD := O4
        have HEND := HIT
        have hpos := hl21.2
        clear O4 HIT
        have OE2 := Lib.hid (World.ownsRow_lit (e := 5) (base := w4.heap.size) (size := 1) w4 #[] 0 (Nat.le_refl _) (by unfold maxLen; omega) rfl)
        have GE2 := Lib.hid ((G.refl w4).alloc (.cells #[] 5))
        obtain ⟨AD, cD, rfl, hcD⟩ := own_sl HD.out
        obtain ⟨gD, rfl⟩ := own_head HD.out hpos
        obtain ⟨wo, rfl⟩ : ∃ wo : World, wo = w4 := ⟨_, rfl⟩
        go_wp2
        go_loopw [6, 7] (fun v i wr => ∃ (k : Nat), k ≤ D.length ∧ i = .int .i64 ((k : Int) - 1) ∧ Hid (wr.ownsRow wo.heap.size 5 1 v (D.drop k).reverse.length ((D.drop k).reverse.flatMap uv)) ∧ Hid (G wo wr)) (fun _ i _ => (intOf i + 1).toNat)
        case atStart => exact ⟨D.length, Nat.le_refl _, rfl, by rw [List.drop_length]; exact OE2, GE2⟩
        case round =>
          clear OE2 GE2
          obtain ⟨k, hk, rfl, HO, G1⟩ := hrel
          have hsz1 := G1.out.size
          have HD3 := Lib.hid (own_G HD.out G1.out)
          by_cases h0 : k = 0
          · subst h0
            obtain ⟨E, HE⟩ : ∃ E, Hid ((D.drop 0).reverse = E) := ⟨_, rfl⟩
            rw [HE.out] at HO
            have hEp : 0 < E.length := by rw [← HE.out]; simpa using hpos
            have HEE := Lib.hid (show E = Lib.itoa (-(u : Int)) by rw [← HE.out, List.drop_zero]; exact HEND.out)
            obtain ⟨A6, c6, rfl, _⟩ := own_sl HO.out
            obtain ⟨g6, rfl⟩ := own_head HO.out hEp
            have kc := Lib.run_convert_whole (P := Tryd.prog) wr 80 5 9 Tryd.underlying80 Tryd.underlying5 Tryd.underlying9 g6 0 ⟨E.toArray⟩ (bytes_own HO.out) c6
            rw [show (ByteArray.mk E.toArray).size = E.length by simp [ByteArray.size]] at kc
            go_wp2
            go_ret
            exact ⟨congrArg (fun x => Ending.returned (.string ⟨List.toArray x⟩)) HEE.out, G4.out.trans G1.out⟩
          · obtain ⟨j, rfl⟩ : ∃ j, k = j + 1 := ⟨k - 1, by omega⟩
            obtain ⟨x, hx⟩ : ∃ x, D[j]? = some x := ⟨_, List.getElem?_eq_getElem (by omega)⟩
            have hcx := own_cellAt_mid HD3.out (flat_uv_at hx)
            have HS := Lib.hid (show (D.drop j).reverse = (D.drop (j + 1)).reverse ++ [x] by
              obtain ⟨hj, rfl⟩ := List.getElem?_eq_some_iff.1 hx
              rw [List.drop_eq_getElem_cons hj, List.reverse_cons])
            have hj1 : ((j + 1 : Nat) : Int) - 1 = (j : Int) := by omega
            rw [hj1]
            have hjl : (j : Int) < (D.length : Int) := by omega
            have hj0 : (0 : Int) ≤ (j : Int) := by omega
            clear hx
            obtain ⟨E, HE⟩ : ∃ E, Hid ((D.drop (j + 1)).reverse = E) := ⟨_, rfl⟩
            have hEl : E.length ≤ 40 := by rw [← HE.out]; first | (simp; omega) | (simp; done)
            rw [HE.out] at HO HS
            go_wp2_with (at_builtin; refine wpList_append_own _ rfl (.tmp 41) (.tmp 46) 80 rfl (wo.heap.size) 5 i0 (.int .u8 0) 1 1 Tryd.underlying80 HI.out.1 HI.out.2.1 HI.out.2.2.1 HI.out.2.2.2 rfl (by decide) _ E.length _ rfl (HO.out.alloc _) ⟨wr.heap.size, 0, none⟩ 1 1 (uv x) rfl rfl (block_news _ (uv x) _) (uv_one _) ?c1 ?c2 ?c3 ?_)
            case c1 => unfold maxLen; omega
            case c2 => omega
            case c3 => first | omega | (simp; omega)
            intro v' w5 hown hgrow _
            have gx := (G.refl wr).alloc (.cells (uv x).toArray 5)
            have O5 := Lib.hid (show w5.ownsRow wo.heap.size 5 1 v' (E ++ [x]).length ((E ++ [x]).flatMap uv) by rw [List.length_append, List.flatMap_append]; simpa using hown)
            rw [← HS.out] at O5
            have G5 := Lib.hid ((G1.out.trans gx).grown hgrow (own_block_of HO.out))
            clear hown hgrow gx
            go_wp2
            go_roundw
            case rel => exact ⟨j, by omega, by go_num, O5, G5⟩
            case measure => first | (simp [intOf]; done) | (simp [intOf]; omega)
end Go.Proofs.YtecakcgkibemaaaDoor
