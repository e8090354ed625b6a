/-
  Walks: the text of holds, by both texts.
-/
import Derived.Test.YtcoaldhmofdfgaaDoorHtM
import Derived.Test.YtcoaldhmofdfgaaDoorDecI
import Derived.Test.YtcoaldhmofdfgaaDoorStrs
import Derived.Test.YtcoaldhmofdfgaaDoorSlc
import Derived.Lib.JoinLaws
import Derived.Deep.RegionHeld3
import Derived.Deep.DrawnRows
namespace Go.Proofs.YtcoaldhmofdfgaaDoor
open Go.RowKit

theorem dec_mkB (n : Int) : dec n = mkB (Lib.itoa n) := rfl
/-- The text of the first k. -/
def htK (L : List SHold) (k : Nat) : ByteArray := mkB (joinL 32 ((L.take k).map htOne))
theorem htK_step {L : List SHold} {k : Nat} {x : SHold} (hx : L[k]? = some x) (hk : 0 < k) : htK L (k + 1) = htK L k ++ ⟨#[32]⟩ ++ (dec x.At ++ ⟨#[43]⟩ ++ dec x.Length) := by
  have hne : (L.take k).map htOne ≠ [] := by
    intro e
    have := congrArg List.length e
    have hl := (List.getElem?_eq_some_iff.1 hx).1
    rw [List.length_map, List.length_take] at this
    simp only [List.length_nil] at this
    omega
  unfold htK
  rw [take_snoc hx, List.map_append, List.map_singleton, joinL_snoc 32 _ _ hne, dec_mkB, dec_mkB]
  rw [show (⟨#[32]⟩ : ByteArray) = mkB [32] from rfl, show (⟨#[43]⟩ : ByteArray) = mkB [43] from rfl]
  simp only [mkB_append, htOne, List.append_assoc, List.cons_append, List.nil_append]
theorem htK_one {L : List SHold} {x : SHold} (hx : L[0]? = some x) : htK L 1 = dec x.At ++ ⟨#[43]⟩ ++ dec x.Length := by
  unfold htK
  rw [show (1 : Nat) = 0 + 1 from rfl, take_snoc hx, dec_mkB, dec_mkB, show (⟨#[43]⟩ : ByteArray) = mkB [43] from rfl]
  simp only [mkB_append, htOne, List.take_zero, List.nil_append, List.map_singleton, joinL, List.append_assoc, List.singleton_append]
theorem htK_size {L : List SHold} (hv : vhs L = true) : ∀ k, k ≤ L.length → (htK L k).size ≤ 64 * k
  | 0, _ => by unfold htK; simp [mkB_size, joinL]
  | k + 1, hk => by
    have hx := List.getElem?_eq_getElem (l := L) (i := k) (by omega)
    obtain ⟨x, e⟩ : ∃ x, L[k] = x := ⟨_, rfl⟩
    rw [e] at hx
    have hb := vhs_el hv (List.mem_of_getElem? hx)
    have d1 := dec_len x.At (by omega) (by omega)
    have d2 := dec_len x.Length (by omega) (by omega)
    have s32 : (ByteArray.mk #[32]).size = 1 := rfl
    have s43 : (ByteArray.mk #[43]).size = 1 := rfl
    have ih := htK_size hv k (by omega)
    by_cases h0 : k = 0
    · subst h0
      rw [htK_one hx]
      simp only [ByteArray.size_append']
      omega
    · rw [htK_step hx (by omega)]
      simp only [ByteArray.size_append']
      omega
theorem htK_all {L : List SHold} (h : L ≠ []) : htK L L.length = htB L := by
  unfold htK htB htL
  rw [if_neg h, List.take_length]
theorem join_L (c : UInt8) : ∀ p : List (List UInt8), Lib.join p [c] = joinL c p
  | [] => rfl
  | [a] => by simp [Lib.join, joinL]
  | a :: b :: r => by
    have ih := join_L c (b :: r)
    unfold Lib.join at ih ⊢
    rw [joinL, ← ih]
    simp
theorem flat_sv (L : List ByteArray) : L.flatMap sv = L.map Value.string := by
  induction L with
  | nil => rfl
  | cons y L ih => rw [List.flatMap_cons, ih]; rfl
theorem flat_puts {M : List ByteArray} {xs : List Value} {k n : Nat} {x : ByteArray} (hl : xs.length = n * 1) (hk : k < n) (ht : xs.take k = (M.take k).flatMap sv) (hx : M[k]? = some x) : (xs.set k (.string x)).take (k + 1) = (M.take (k + 1)).flatMap sv := by
  rw [← flat_snoc hx, ← ht, List.take_set, List.take_succ_eq_append_getElem (by omega), List.set_append_right _ _ (by simp; omega)]
  simp [show k - min k xs.length = 0 by omega, sv]
def htParts (L : List SHold) : List ByteArray := L.map fun x => mkB (htOne x)

set_option maxRecDepth 20000 in
set_option maxHeartbeats 4000000 in
theorem l18Text_any (A : Option Addr) (n c : Nat) (L : List SHold) (w : World) (hr : Rd w A 2 cHold L) (hn : L.length = n) (hv : vhs L = true) :
    Calls Tryd.prog 31 #[.slice A n c] w fun e w' => e = .returned (.string (htB L)) ∧ G w w' := by
  have hn16 := vhs_16 hv
  rw [hn] at hn16
  have HV := Lib.hid hv
  have Hn := Lib.hid hn
  have HR := Lib.hid hr
  clear hv hr
  by_cases h0 : n = 0
  · have H := Lib.hid (show htB L = ⟨#[45]⟩ by rw [List.eq_nil_of_length_eq_zero (hn.trans h0)]; rfl)
    subst h0
    clear hn
    go_enter Tryd.func31, Tryd.ntmps31
    go_wp2
    go_ret
    exact ⟨congrArg (fun x => Ending.returned (.string x)) H.out.symm, G.refl _⟩
  have H := Lib.hid (show htK L n = htB L by rw [← hn]; exact htK_all (fun e => h0 (by rw [← hn, e]; rfl)))
  clear hn
  go_enter Tryd.func31, Tryd.ntmps31
  go_wp2
  go_loopw [3, 4] (fun v i wr => ∃ (k : Nat) (T : ByteArray), k ≤ n ∧ i = .int .i64 (k : Int) ∧ v = .string T ∧ T.size ≤ 64 * k ∧ Hid (htK L k = T) ∧ Hid (G w wr)) (fun _ i _ => n - (intOf i).toNat)
  case atStart => exact ⟨0, _, Nat.zero_le _, rfl, rfl, Nat.zero_le _, Lib.hid rfl, Lib.hid (G.refl _)⟩
  case round =>
    obtain ⟨k, T, hk, rfl, rfl, hT, HT, G0⟩ := hrel
    have hk0 : (0 : Int) ≤ (k : Int) := by omega
    by_cases hlt : k < n
    · have hlt2 : (k : Int) < (n : Int) := by omega
      obtain ⟨b, o, x, rfl, hx, hc0, hc1⟩ := (HR.out.G G0.out).Hold (k := k) (by rw [Hn.out]; exact hlt)
      have hb := vhs_el HV.out (List.mem_of_getElem? hx)
      have HSZ := Lib.hid (htK_size HV.out (k + 1) (by rw [Hn.out]; omega))
      have d1 := dec_len x.At (by omega) (by omega)
      have d2 := dec_len x.Length (by omega) (by omega)
      have K1 := Lib.hid (fun (W : World) => l01Dec_dec x.At (by omega) (by omega) W)
      have K2 := Lib.hid (fun (W : World) => l01Dec_dec x.Length (by omega) (by omega) W)
      have HX := Lib.hid hx
      have HS := Lib.hid (show htK L (k + 1) = (if k = 0 then dec x.At ++ ⟨#[43]⟩ ++ dec x.Length else htK L k ++ ⟨#[32]⟩ ++ (dec x.At ++ ⟨#[43]⟩ ++ dec x.Length)) by
        by_cases h0 : k = 0
        · subst h0; rw [if_pos rfl]; exact htK_one HX.out
        · rw [if_neg h0]; exact htK_step HX.out (by omega))
      obtain ⟨D1, HD1⟩ : ∃ D, Hid (dec x.At = D) := ⟨_, rfl⟩
      obtain ⟨D2, HD2⟩ : ∃ D, Hid (dec x.Length = D) := ⟨_, rfl⟩
      rw [HD1.out] at K1 HS d1
      rw [HD2.out] at K2 HS d2
      obtain ⟨xa, xl⟩ := x
      simp only at hc0 hc1 K1 K2
      have s32 : (ByteArray.mk #[32]).size = 1 := rfl
      have s43 : (ByteArray.mk #[43]).size = 1 := rfl
      clear hx HD1 HD2 hb
      by_cases h00 : k = 0
      · subst h00
        rw [Nat.zero_mul, Nat.add_zero] at hc0 hc1
        have gc0 := cellR hc0
        have gc1 := cellR hc1
        clear hc0 hc1
        obtain rfl : T = ⟨#[]⟩ := by rw [← HT.out]; rfl
        have HS2 := Lib.hid (show htK L 1 = ⟨#[]⟩ ++ (D1 ++ ⟨#[43]⟩ ++ D2) by have := HS.out; rw [if_pos rfl] at this; rw [this]; exact (ByteArray.empty_append).symm)
        rw [Int.natCast_zero] at hlt2 hk0 ⊢
        clear HS
        go_wp2
        refine region_quiet_G (by kernel_rfl) (by kernel_rfl) ?_; (repeat (go_big_quiet_step (((first | (go_at_call 62; with_reducible exact quiet_G (K1.out _)) | (go_at_call 62; with_reducible exact quiet_G (K2.out _))))))); refine wpQuiet_nil ?_
        intro w2 g2
        have G2 := Lib.hid (G0.out.trans g2)
        clear g2 gc0 gc1
        go_wp2
        go_roundw
        case rel => exact ⟨1, _, by omega, by first | rfl | go_num, rfl, by rw [← HS2.out]; have := HSZ.out; omega, HS2, G2⟩
        case measure => first | (simp [intOf]; done) | (simp [intOf]; omega)
      · have hkp : (0 : Int) < (k : Int) := by omega
        have gc0 := cellR hc0
        have gc1 := cellR hc1
        clear hc0 hc1
        have HS2 := Lib.hid (show htK L (k + 1) = T ++ ⟨#[32]⟩ ++ (D1 ++ ⟨#[43]⟩ ++ D2) by rw [HS.out, if_neg h00, HT.out])
        clear HS
        go_wp2
        refine region_quiet_G (by kernel_rfl) (by kernel_rfl) ?_; (repeat (go_big_quiet_step (((first | (go_at_call 62; with_reducible exact quiet_G (K1.out _)) | (go_at_call 62; with_reducible exact quiet_G (K2.out _))))))); refine wpQuiet_nil ?_
        intro w2 g2
        have G2 := Lib.hid (G0.out.trans g2)
        clear g2 gc0 gc1
        go_wp2
        go_roundw
        case rel => exact ⟨k + 1, _, by omega, by go_num, rfl, by rw [← HS2.out]; exact HSZ.out, HS2, G2⟩
        case measure => first | (simp [intOf]; done) | (simp [intOf]; omega)
    · obtain rfl : k = n := by omega
      have HF := Lib.hid (HT.out.symm.trans H.out)
      go_wp2
      go_ret
      exact ⟨congrArg (fun x => Ending.returned (.string x)) HF.out, G0.out⟩

set_option maxRecDepth 20000 in
set_option maxHeartbeats 4000000 in
theorem sHoldsText_any (A : Option Addr) (n c : Nat) (L : List SHold) (w : World) (hr : Rd w A 2 cHold L) (hn : L.length = n) (hb : n ≤ 4194304) :
    Calls Tryd.prog 8 #[.slice A n c] w fun e w' => e = .returned (.string (htR L)) ∧ G w w' := by
  have K := Lib.hid (l18Holds_any A n c L w hr hn hb)
  have Hn := Lib.hid hn
  have HR := Lib.hid hr
  clear hr hn
  cases hv : vhs L
  · have H := Lib.hid (show htR L = ⟨#[]⟩ by unfold htR; rw [hv]; rfl)
    rw [hv] at K
    clear hv
    go_enter Tryd.func8, Tryd.ntmps8
    go_wp2_with (go_at_call 30; with_reducible refine K.out.mono ?_; rintro e w1 ⟨rfl, g1⟩; have G1 := Lib.hid g1; clear g1)
    go_ret
    exact ⟨congrArg (fun x => Ending.returned (.string x)) H.out.symm, G1.out⟩
  · have H := Lib.hid (show htR L = htB L by unfold htR; rw [if_pos hv])
    have K2 := Lib.hid (fun (W : World) (g : G w W) => l18Text_any A n c L W (HR.out.G g) Hn.out hv)
    rw [hv] at K
    obtain ⟨T, HT⟩ : ∃ T, Hid (htB L = T) := ⟨_, rfl⟩
    rw [HT.out] at H K2
    clear hv
    go_enter Tryd.func8, Tryd.ntmps8
    go_wp2_with (first | (go_at_call 30; with_reducible refine K.out.mono ?_; rintro e w1 ⟨rfl, g1⟩; have G1 := Lib.hid g1; clear g1) | (go_at_call 31; with_reducible refine (K2.out _ G1.out).mono ?_; rintro e w2 ⟨rfl, g2⟩; have G2 := Lib.hid (G1.out.trans g2); clear g2))
    go_ret
    exact ⟨congrArg (fun x => Ending.returned (.string x)) H.out.symm, G2.out⟩

attribute [local go_sem ↓] Go.wp_at_zero Go.wp_at_succ
set_option maxRecDepth 20000 in
set_option maxHeartbeats 4000000 in
theorem iHoldsText_any (A : Option Addr) (n c : Nat) (L : List SHold) (w : World) (hr : Rd w A 2 cHold L) (hn : L.length = n) (hb : n ≤ 4194304) (ht : TabP w) :
    Calls Tryd.prog 10 #[.slice A n c] w fun e w' => e = .returned (.string (htR L)) ∧ G w w' := by
  obtain ⟨i0, hi, hz0, hz1, hz2⟩ := info_parts infoString
  have HI := Lib.hid (And.intro hi (And.intro hz0 (And.intro hz1 hz2)))
  clear hi hz0 hz1 hz2
  have K := Lib.hid (ValidHolds_any A n c L w hr hn hb)
  have Hn := Lib.hid hn
  have HR := Lib.hid hr
  have HTP := Lib.hid ht
  clear hr hn ht
  cases hv : vhs L
  · have H := Lib.hid (show htR L = ⟨#[]⟩ by unfold htR; rw [hv]; rfl)
    rw [hv] at K
    clear hv
    go_enter Tryd.func10, Tryd.ntmps10
    go_wp2_with (go_at_call 33; with_reducible refine K.out.mono ?_; rintro e w1 ⟨rfl, g1⟩; have G1 := Lib.hid g1; clear g1)
    go_ret
    exact ⟨congrArg (fun x => Ending.returned (.string x)) H.out.symm, G1.out⟩
  have H := Lib.hid (show htR L = htB L by unfold htR; rw [if_pos hv])
  have hn16 := vhs_16 hv
  rw [Hn.out] at hn16
  have HV := Lib.hid hv
  rw [hv] at K
  clear hv
  by_cases h0 : n = 0
  · have H2 := Lib.hid (show htR L = ⟨#[45]⟩ by rw [H.out, List.eq_nil_of_length_eq_zero (Hn.out.trans h0)]; rfl)
    subst h0
    go_enter Tryd.func10, Tryd.ntmps10
    go_wp2_with (go_at_call 33; with_reducible refine K.out.mono ?_; rintro e w1 ⟨rfl, g1⟩; have G1 := Lib.hid g1; clear g1)
    go_ret
    exact ⟨congrArg (fun x => Ending.returned (.string x)) H2.out.symm, G1.out⟩
  have hd : ((n : Int) == 0) = false := by simp; omega
  have HJ := Lib.hid (show (⟨(Lib.join ((htParts L).map (·.data.toList)) [32]).toArray⟩ : ByteArray) = htR L by
    rw [H.out, join_L]
    unfold htB htL htParts
    rw [if_neg (fun e => h0 (by rw [← Hn.out, e]; rfl)), List.map_map]
    congr 3)
  have HJL := Lib.hid (show (Lib.join ((htParts L).map (·.data.toList)) [32]).length ≤ 140737488355328 by
    have h1 := congrArg ByteArray.size HJ.out
    rw [H.out, ← htK_all (fun e => h0 (by rw [← Hn.out, e]; rfl))] at h1
    have h2 := htK_size HV.out L.length (Nat.le_refl _)
    have h3 : (⟨(Lib.join ((htParts L).map (·.data.toList)) [32]).toArray⟩ : ByteArray).size = (Lib.join ((htParts L).map (·.data.toList)) [32]).length := by simp [ByteArray.size]
    rw [h3, Hn.out] at h1
    rw [Hn.out] at h2
    omega)
  go_enter Tryd.func10, Tryd.ntmps10
  go_wp2_with (first | (go_at_call 33; with_reducible refine K.out.mono ?_; rintro e w1 ⟨rfl, g1⟩; have G1 := Lib.hid g1; have s1 := g1.size; clear g1) | (refine wpList_make_full _ rfl _ _ 58 rfl w.heap.size 9 i0 (.string ⟨#[]⟩) 1 Tryd.underlying58 HI.out.1 HI.out.2.1 HI.out.2.2.1 .i64 .i64 _ _ n rfl rfl rfl rfl (by rw [HI.out.2.2.2]; omega) (by unfold maxLen; omega) s1 ?_; intro w2 hown hgrow; have HO := Lib.hid hown; have HG := Lib.hid (G1.out.grown hgrow (by simp)); clear hown hgrow))
  clear K
  obtain ⟨B, HB⟩ : ∃ B, Hid (w1.heap.size = B) := ⟨_, rfl⟩
  have hB := HB.out
  simp only [hB] at HO s1 ⊢
  clear hB
  go_loopw [17] (fun i wr => ∃ (k : Nat) (xs : List Value), k ≤ n ∧ i = .int .i64 (k : Int) ∧ Hid (wr.ownsRow w.heap.size 9 1 (.slice (some ⟨B, 0, none⟩) n n) n xs) ∧ Hid (xs.take k = ((htParts L).take k).flatMap sv) ∧ Hid (G w wr)) (fun i _ => n - (intOf i).toNat)
  case atStart => exact ⟨0, _, Nat.zero_le _, rfl, Lib.hid HO.out, Lib.hid (by simp), HG⟩
  case round =>
    obtain ⟨k, xs, hk, rfl, HO1, HT, G0⟩ := hrel
    have hk0 : (0 : Int) ≤ (k : Int) := by omega
    by_cases hlt : k < n
    · have hlt2 : (k : Int) < (n : Int) := by omega
      obtain ⟨b, o, x, rfl, hx, hc0, hc1⟩ := (HR.out.G G0.out).Hold (k := k) (by rw [Hn.out]; exact hlt)
      have hb := vhs_el HV.out (List.mem_of_getElem? hx)
      have d1 := dec_len x.At (by omega) (by omega)
      have d2 := dec_len x.Length (by omega) (by omega)
      have HY := Lib.hid (show (htParts L)[k]? = some (dec x.At ++ ⟨#[43]⟩ ++ dec x.Length) by
        rw [show dec x.At ++ ⟨#[43]⟩ ++ dec x.Length = mkB (htOne x) by
          rw [dec_mkB, dec_mkB, show (⟨#[43]⟩ : ByteArray) = mkB [43] from rfl]
          simp only [mkB_append, htOne, List.append_assoc, List.singleton_append]]
        exact map_at hx)
      have K1 := Lib.hid (fun (W : World) (g : G wr W) => Decimal_any x.At (by omega) (by omega) W (HTP.out.G (G0.out.trans g)))
      have K2 := Lib.hid (fun (W : World) (g : G wr W) => Decimal_any x.Length (by omega) (by omega) W (HTP.out.G (G0.out.trans g)))
      obtain ⟨D1, HD1⟩ : ∃ D, Hid (dec x.At = D) := ⟨_, rfl⟩
      obtain ⟨D2, HD2⟩ : ∃ D, Hid (dec x.Length = D) := ⟨_, rfl⟩
      rw [HD1.out] at K1 HY d1
      rw [HD2.out] at K2 HY d2
      obtain ⟨xa, xl⟩ := x
      simp only at hc0 hc1 K1 K2
      have s43 : (ByteArray.mk #[43]).size = 1 := rfl
      clear hx HD1 HD2 hb
      obtain ⟨y, HYY⟩ : ∃ y, Hid (D1 ++ ⟨#[43]⟩ ++ D2 = y) := ⟨_, rfl⟩
      rw [HYY.out] at HY
      go_wp2
      obtain ⟨wx, HWX⟩ : ∃ wx, Hid (wr.alloc (.cells #[.int .i64 xa, .int .i64 xl] 54) = wx) := ⟨_, rfl⟩
      rw [HWX.out]
      have GX := Lib.hid (show G wr wx by rw [← HWX.out]; exact (G.refl wr).alloc _)
      have CX0 := Lib.hid (show wx.cell? ⟨wr.heap.size, 0, none⟩ = some (.int .i64 xa) by rw [← HWX.out]; exact World.cell?_alloc_at _ _ _ _ rfl)
      have CX1 := Lib.hid (show wx.cell? ⟨wr.heap.size, 1, none⟩ = some (.int .i64 xl) by rw [← HWX.out]; exact World.cell?_alloc_at _ _ _ _ rfl)
      obtain ⟨u, HU⟩ : ∃ u, Hid (xs[k]? = some u) := ⟨_, List.getElem?_eq_getElem (by have := HO1.out.1; omega)⟩
      have NE := Lib.hid (show B ≠ wr.heap.size by have := (HO1.out.lt B rfl).2; omega)
      have gc0 := CX0.out
      have gc1 := CX1.out
      have hn1 : ¬ (9223372036854775807 < D1.size + 1) := by omega
      have hn2 : ¬ (9223372036854775806 < D1.size) := by omega
      have hn3 : ¬ (9223372036854775807 < D1.size + 1 + D2.size) := by omega
      go_region_held3 (fun w' => w'.cell? ⟨wr.heap.size, 0, none⟩ = some (.int .i64 xa) ∧ w'.cell? ⟨wr.heap.size, 1, none⟩ = some (.int .i64 xl)) (first | go_keep | exact ⟨(World.cell?_setCell_far _ _ _ _ NE.out).trans (G6.out.cell CX0.out), (World.cell?_setCell_far _ _ _ _ NE.out).trans (G6.out.cell CX1.out)⟩ | exact ⟨G6.out.cell CX0.out, G6.out.cell CX1.out⟩ | exact ⟨G5.out.cell CX0.out, G5.out.cell CX1.out⟩) (first | (go_at_call 34; with_reducible refine (K1.out _ GX.out.drew).mono ?_; rintro e w5 ⟨rfl, g5⟩; have G5 := Lib.hid (((G.refl wx).drew).trans g5); clear g5) | (go_at_call 34; with_reducible refine (K2.out _ (GX.out.trans G5.out)).mono ?_; rintro e w6 ⟨rfl, g6⟩; have G6 := Lib.hid (G5.out.trans g6); clear g6; have HO2 := Lib.hid (own_G HO1.out (GX.out.trans G6.out)); have hu := own_cellAt_mid HO2.out HU.out; have hf := own_frozen_of HO2.out k))
      clear gc0 gc1 hn1 hn2 hn3
      try rw [HYY.out]
      go_wp2
      go_roundw
      case rel => exact ⟨k + 1, _, by omega, by go_num, Lib.hid (World.ownsRow.stored HO2.out k (.string y)).1, Lib.hid (flat_puts HO2.out.1 hlt HT.out HY.out), Lib.hid ((G0.out.trans (GX.out.trans G6.out)).setCell (p := ⟨B, k, none⟩) (by simp only; omega) (.string y))⟩
      case measure => first | (simp [intOf]; done) | (simp [intOf]; omega)
    · have hkn : k = n := by omega
      have hpl : (htParts L).length = n := by unfold htParts; rw [List.length_map, Hn.out]
      have HO2 := Lib.hid (show wr.ownsRow w.heap.size 9 1 (.slice (some ⟨B, 0, none⟩) n n) n ((htParts L).flatMap sv) by
        have h1 := HO1.out
        rw [flat_all (M := htParts L) (f := sv) h1.1 hkn hpl (by rw [Nat.mul_one]; exact HT.out)] at h1
        exact h1)
      have hbB : B < wr.heap.size := (HO2.out.lt B rfl).2
      have KJ := Lib.hid (show Calls Tryd.prog 35 #[.slice (some ⟨B, 0, none⟩) n n, .string ⟨#[32]⟩] wr fun e w' => e = .returned (.string (htR L)) ∧ G wr w' by
        have h := Tryd.strings_Join B 0 n (htParts L) ⟨#[32]⟩ wr (fun j x hj => by
          rw [Nat.zero_add]
          refine own_cellAt_mid HO2.out ?_
          rw [flat_sv, List.getElem?_map, hj]
          rfl) hbB (by rw [hpl]; omega) (by rw [hpl]; exact Nat.le_refl _) HJL.out
        rw [hpl] at h
        refine h.mono fun e w' ⟨he, hb⟩ => ⟨?_, hb⟩
        rw [he, ← HJ.out])
      go_wp2_with (go_at_call 35; with_reducible refine KJ.out.mono ?_; rintro e w2 ⟨rfl, g2⟩; have G2 := Lib.hid (G0.out.trans g2); clear g2)
      go_ret
      exact ⟨rfl, G2.out⟩
end Go.Proofs.YtcoaldhmofdfgaaDoor
