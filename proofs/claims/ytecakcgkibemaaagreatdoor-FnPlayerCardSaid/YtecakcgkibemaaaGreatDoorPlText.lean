/-
  Walks: the text of a player, by both texts.
-/
import Derived.Test.YtecakcgkibemaaaGreatDoorCuText
import Derived.Test.YtecakcgkibemaaaGreatDoorRemain
namespace Go.Proofs.YtecakcgkibemaaaGreatDoor
open Go.RowKit

def plW (p : Bool) : ByteArray := if p then ⟨#[112, 108, 97, 121]⟩ else ⟨#[112, 97, 117, 115, 101]⟩
def plH (t r : Int) (p : Bool) : ByteArray := (plW p ++ ⟨#[32]⟩) ++ (dec t ++ ⟨#[32]⟩ ++ dec r)
def plF (h : ByteArray) (L : List SCue) : ByteArray := L.foldl (fun s x => s ++ (⟨#[47]⟩ ++ cueT x)) h
def plT (L : List SCue) (t r : Int) (p : Bool) : ByteArray := plF (plH t r p) L
def plTx (L : List SCue) (t r : Int) (p : Bool) : ByteArray := if vplB L t r = true then plT L t r p else ⟨#[]⟩
theorem plF_snoc {h : ByteArray} {L : List SCue} {k : Nat} {x : SCue} (hx : L[k]? = some x) : plF h (L.take (k + 1)) = plF h (L.take k) ++ (⟨#[47]⟩ ++ cueT x) := by
  unfold plF
  rw [List.take_add_one, hx, Option.toList_some, List.foldl_append]
  rfl
theorem plF_size {h : ByteArray} {L : List SCue} (hv : vcus L = true) : ∀ k, k ≤ L.length → (plF h (L.take k)).size ≤ h.size + 1001 * k
  | 0, _ => by simp [plF]
  | k + 1, hk => by
    have hx : L[k]? = some L[k] := List.getElem?_eq_getElem (by omega)
    have h1 := plF_size (h := h) hv k (by omega)
    have h2 := cueT_size (vcus_at hv hx)
    have s1 : (ByteArray.mk #[47]).size = 1 := rfl
    rw [plF_snoc hx]
    simp only [ByteArray.size_append, s1]
    omega
theorem plH_two (t r : Int) (p : Bool) : plH t r p = plW p ++ (⟨#[32]⟩ ++ dec t ++ ⟨#[32]⟩ ++ dec r) := by
  unfold plH
  simp only [ByteArray.append_assoc]
theorem plH_one (t r : Int) : plH t r true = ⟨#[112, 108, 97, 121, 32]⟩ ++ (dec t ++ ⟨#[32]⟩ ++ dec r) ∧ plH t r false = ⟨#[112, 97, 117, 115, 101, 32]⟩ ++ (dec t ++ ⟨#[32]⟩ ++ dec r) := ⟨rfl, rfl⟩
theorem plH_size {t r : Int} (p : Bool) (h0 : 0 ≤ t) (h1 : t ≤ 7200000) (h2 : 0 ≤ r) (h3 : r ≤ 4000) : (plH t r p).size ≤ 100 := by
  have d1 := dec_len t (by omega) (by omega)
  have d2 := dec_len r (by omega) (by omega)
  have s1 : (ByteArray.mk #[32]).size = 1 := rfl
  have s2 : (plW p).size ≤ 5 := by unfold plW; cases p <;> decide
  unfold plH
  simp only [ByteArray.size_append, s1]
  omega
theorem vcus_wf {L : List SCue} (h : vcus L = true) : ∀ x ∈ L, WfCue x := fun x hx => by
  obtain ⟨k, hk⟩ := List.mem_iff_getElem?.1 hx
  have := vcuB_nm (vcus_at h hk)
  exact ⟨by unfold maxLen; omega, by unfold maxLen; omega⟩

set_option maxRecDepth 20000 in
set_option maxHeartbeats 8000000 in
theorem iPlayerText_any (A : Option Addr) (n c : Nat) (t r : Int) (p : Bool) (L : List SCue) (w : World) (hr : Rd w A 6 cCue L) (hn : L.length = n) (hb : n ≤ 4194304) (hcap : n ≤ c) (hwf : ∀ x ∈ L, WfCue x) (ht : TabP w) :
    Calls Tryz.prog 6 #[pV A n c t r p] w fun e w' => e = .returned (.string (plTx L t r p)) ∧ G w w' := by
  have K := Lib.hid (fun (W : World) (g : G w W) => iValidPlayer_any A n c t r p L W (hr.G g) hn hb hcap hwf)
  have HT := Lib.hid ht
  have HR := Lib.hid hr
  have OB := Lib.hid (own_new (w := w) (base := w.heap.size) (n := 1) (cap := 1) (size := 4) (e := 25) (cur := #[.slice A n c, .int .i64 t, .int .i64 r, .bool p]) (Nat.le_refl _) (by decide) (by decide) rfl)
  have GB := Lib.hid ((G.refl w).alloc (.cells #[.slice A n c, .int .i64 t, .int .i64 r, .bool p] 25))
  clear hr hwf ht
  unfold pV at K ⊢
  cases hv : vplB L t r
  · have H := Lib.hid (show plTx L t r p = ⟨#[]⟩ by unfold plTx; rw [hv]; rfl)
    rw [hv] at K
    clear hv
    go_enter Tryz.func6, Tryz.ntmps6
    go_wp2_with (go_at_call 19; (with_reducible refine (K.out _ ?hg).mono ?_); (case hg => exact GB.out); rintro e w1 ⟨rfl, g1⟩; have G1 := Lib.hid (GB.out.trans g1); clear g1)
    go_ret
    exact ⟨congrArg (fun x => Ending.returned (.string x)) H.out.symm, G1.out⟩
  have H := Lib.hid (show plTx L t r p = plT L t r p by unfold plTx; rw [if_pos hv])
  obtain ⟨hvc, ht0, ht1, hr0, hr1, he⟩ := vplB_bd hv
  have HW := Lib.hid (fun x (hx : x ∈ L) => vcus_wf hvc x hx)
  have HX := Lib.hid (fun (k : Nat) (x : SCue) (h : L[k]? = some x) => vcus_at hvc h)
  have hl := vcus_len hvc
  have HSZ := Lib.hid (fun k (hk : k ≤ L.length) => plF_size (h := plH t r p) hvc k hk)
  have HZ := Lib.hid (plH_size (t := t) (r := r) p ht0 (by omega) (by omega) hr1)
  have d1 := dec_len t (by omega) (by omega)
  have d2 := dec_len r (by omega) (by omega)
  have s1 : (ByteArray.mk #[32]).size = 1 := rfl
  have s2 : (ByteArray.mk #[47]).size = 1 := rfl
  have s3 : (ByteArray.mk #[112, 108, 97, 121, 32]).size = 5 := rfl
  have s4 : (ByteArray.mk #[112, 97, 117, 115, 101, 32]).size = 6 := rfl
  have s5 : (ByteArray.mk #[112, 108, 97, 121]).size = 4 := rfl
  have s6 : (ByteArray.mk #[112, 97, 117, 115, 101]).size = 5 := rfl
  have K1 := Lib.hid (fun (W : World) (g : G w W) => Decimal_any t (by omega) (by omega) W (HT.out.G g))
  have K2 := Lib.hid (fun (W : World) (g : G w W) => Decimal_any r (by omega) (by omega) W (HT.out.G g))
  have KC := Lib.hid (fun (x : SCue) (hx : vcuB x = true) (hwx : WfCue x) (W : World) (g : G w W) => iCueText_yes x hx hwx W (HT.out.G g))
  have HP := Lib.hid (plH_one t r)
  rw [hv] at K
  obtain ⟨D1, HD1⟩ : ∃ D, Hid (dec t = D) := ⟨_, rfl⟩
  obtain ⟨D2, HD2⟩ : ∃ D, Hid (dec r = D) := ⟨_, rfl⟩
  rw [HD1.out] at K1 d1 HP
  rw [HD2.out] at K2 d2 HP
  clear hv hvc HD1 HD2
  have ht2 : -9223372036854775808 ≤ t := by omega
  cases p
  · go_enter Tryz.func6, Tryz.ntmps6
    go_wp2_with (go_at_call 19; (with_reducible refine (K.out _ ?hg).mono ?_); (case hg => exact GB.out); rintro e w1 ⟨rfl, g1⟩; have G1 := Lib.hid (GB.out.trans g1); have O1 := Lib.hid (own_G OB.out g1); clear g1; have hc0 := own_cellAt_mid O1.out (j := 0) rfl; have hc1 := own_cellAt_mid O1.out (j := 1) rfl; have hc2 := own_cellAt_mid O1.out (j := 2) rfl; have hc3 := own_cellAt_mid O1.out (j := 3) rfl)
    have gc1 := cellR hc1
    have gc2 := cellR hc2
    clear hc0 hc1 hc2 hc3
    refine region_quiet_G (by kernel_rfl) (by kernel_rfl) ?_; (repeat (go_big_quiet_step (((first | (go_at_call 20; with_reducible exact quiet_G (K1.out _ (G1.out.trans (G.regrown _ _ _)))) | (go_at_call 20; with_reducible exact quiet_G (K2.out _ (G1.out.trans (G.regrown _ _ _))))))))); refine wpQuiet_nil ?_
    intro w2 g2
    have G2 := Lib.hid (G1.out.trans g2)
    have O2 := Lib.hid (own_G O1.out g2)
    clear g2 gc1 gc2
    have hc0 := own_cellAt_mid O2.out (j := 0) rfl
    have HS := Lib.hid (show ⟨#[112, 97, 117, 115, 101, 32]⟩ ++ (D1 ++ ⟨#[32]⟩ ++ D2) = plH t r false from HP.out.2.symm)
    go_wp2
    rw [HS.out]
    obtain ⟨h, HH⟩ : ∃ h, Hid (plH t r false = h) := ⟨_, rfl⟩
    rw [HH.out] at HSZ HZ ⊢
    have hz := HZ.out
    clear hc0
    go_loopw [3, 24] (fun v i wr => ∃ (k : Nat), k ≤ n ∧ i = .int .i64 (k : Int) ∧ v = .string (plF h (L.take k)) ∧ Hid (G w wr)) (fun _ i _ => n - (intOf i).toNat)
    case atStart => exact ⟨0, Nat.zero_le _, rfl, rfl, G2⟩
    case round =>
      obtain ⟨k, hk, rfl, rfl, HG⟩ := hrel
      have hk0 : (0 : Int) ≤ (k : Int) := by omega
      have HSK := HSZ.out k (by omega)
      by_cases hlt : k < n
      · have hlt2 : (k : Int) < (n : Int) := by omega
        have RD := Lib.hid (HR.out.G HG.out)
        obtain ⟨b, o, x, rfl, hx, hx0, hx1, hx2, hx3, hx4, hx5⟩ := RD.out.Cue (k := k) (by omega)
        have HE := Lib.hid (plF_snoc (h := h) hx)
        have hxm := List.mem_of_getElem? hx
        have KX := Lib.hid (fun (W : World) (g : G w W) => KC.out x (HX.out k x hx) (HW.out x hxm) W g)
        have hcz := cueT_size (HX.out k x hx)
        obtain ⟨T, HTT⟩ : ∃ T, Hid (cueT x = T) := ⟨_, rfl⟩
        obtain ⟨S, HSS⟩ : ∃ S, Hid (plF h (L.take k) = S) := ⟨_, rfl⟩
        rw [HTT.out] at hcz KX HE
        rw [HSS.out] at HSK HE ⊢
        clear hx hxm
        have GA := Lib.hid ((G.refl wr).alloc (.cells #[.string x.Id, .int .i64 x.Time, .int .i64 x.Length, .string x.Target, .int .i64 x.Action, .int .i64 x.Value] 49))
        go_wp2_with (go_at_call 21; (with_reducible refine (KX.out _ ?hg).mono ?_); (case hg => exact HG.out.trans GA.out); rintro e w5 ⟨rfl, g5⟩; have G5 := Lib.hid ((HG.out.trans GA.out).trans g5); clear g5)
        go_roundw
        case rel => exact ⟨k + 1, by omega, by go_num, by rw [HE.out], G5⟩
        case measure => first | (simp [intOf]; done) | (simp [intOf]; omega)
      · have hkn : k = n := by omega
        have HE := Lib.hid (show plTx L t r false = plF h (L.take k) by rw [H.out, List.take_of_length_le (by omega)]; unfold plT; rw [HH.out])
        go_wp2
        go_ret
        exact ⟨congrArg (fun x => Ending.returned (.string x)) HE.out.symm, HG.out⟩
  · go_enter Tryz.func6, Tryz.ntmps6
    go_wp2_with (go_at_call 19; (with_reducible refine (K.out _ ?hg).mono ?_); (case hg => exact GB.out); rintro e w1 ⟨rfl, g1⟩; have G1 := Lib.hid (GB.out.trans g1); have O1 := Lib.hid (own_G OB.out g1); clear g1; have hc0 := own_cellAt_mid O1.out (j := 0) rfl; have hc1 := own_cellAt_mid O1.out (j := 1) rfl; have hc2 := own_cellAt_mid O1.out (j := 2) rfl; have hc3 := own_cellAt_mid O1.out (j := 3) rfl)
    have gc1 := cellR hc1
    have gc2 := cellR hc2
    clear hc0 hc1 hc2 hc3
    refine region_quiet_G (by kernel_rfl) (by kernel_rfl) ?_; (repeat (go_big_quiet_step (((first | (go_at_call 20; with_reducible exact quiet_G (K1.out _ (G1.out.trans (G.regrown _ _ _)))) | (go_at_call 20; with_reducible exact quiet_G (K2.out _ (G1.out.trans (G.regrown _ _ _))))))))); refine wpQuiet_nil ?_
    intro w2 g2
    have G2 := Lib.hid (G1.out.trans g2)
    have O2 := Lib.hid (own_G O1.out g2)
    clear g2 gc1 gc2
    have hc0 := own_cellAt_mid O2.out (j := 0) rfl
    have HS := Lib.hid (show ⟨#[112, 108, 97, 121, 32]⟩ ++ (D1 ++ ⟨#[32]⟩ ++ D2) = plH t r true from HP.out.1.symm)
    go_wp2
    rw [HS.out]
    obtain ⟨h, HH⟩ : ∃ h, Hid (plH t r true = h) := ⟨_, rfl⟩
    rw [HH.out] at HSZ HZ ⊢
    have hz := HZ.out
    clear hc0
    go_loopw [3, 24] (fun v i wr => ∃ (k : Nat), k ≤ n ∧ i = .int .i64 (k : Int) ∧ v = .string (plF h (L.take k)) ∧ Hid (G w wr)) (fun _ i _ => n - (intOf i).toNat)
    case atStart => exact ⟨0, Nat.zero_le _, rfl, rfl, G2⟩
    case round =>
      obtain ⟨k, hk, rfl, rfl, HG⟩ := hrel
      have hk0 : (0 : Int) ≤ (k : Int) := by omega
      have HSK := HSZ.out k (by omega)
      by_cases hlt : k < n
      · have hlt2 : (k : Int) < (n : Int) := by omega
        have RD := Lib.hid (HR.out.G HG.out)
        obtain ⟨b, o, x, rfl, hx, hx0, hx1, hx2, hx3, hx4, hx5⟩ := RD.out.Cue (k := k) (by omega)
        have HE := Lib.hid (plF_snoc (h := h) hx)
        have hxm := List.mem_of_getElem? hx
        have KX := Lib.hid (fun (W : World) (g : G w W) => KC.out x (HX.out k x hx) (HW.out x hxm) W g)
        have hcz := cueT_size (HX.out k x hx)
        obtain ⟨T, HTT⟩ : ∃ T, Hid (cueT x = T) := ⟨_, rfl⟩
        obtain ⟨S, HSS⟩ : ∃ S, Hid (plF h (L.take k) = S) := ⟨_, rfl⟩
        rw [HTT.out] at hcz KX HE
        rw [HSS.out] at HSK HE ⊢
        clear hx hxm
        have GA := Lib.hid ((G.refl wr).alloc (.cells #[.string x.Id, .int .i64 x.Time, .int .i64 x.Length, .string x.Target, .int .i64 x.Action, .int .i64 x.Value] 49))
        go_wp2_with (go_at_call 21; (with_reducible refine (KX.out _ ?hg).mono ?_); (case hg => exact HG.out.trans GA.out); rintro e w5 ⟨rfl, g5⟩; have G5 := Lib.hid ((HG.out.trans GA.out).trans g5); clear g5)
        go_roundw
        case rel => exact ⟨k + 1, by omega, by go_num, by rw [HE.out], G5⟩
        case measure => first | (simp [intOf]; done) | (simp [intOf]; omega)
      · have hkn : k = n := by omega
        have HE := Lib.hid (show plTx L t r true = plF h (L.take k) by rw [H.out, List.take_of_length_le (by omega)]; unfold plT; rw [HH.out])
        go_wp2
        go_ret
        exact ⟨congrArg (fun x => Ending.returned (.string x)) HE.out.symm, HG.out⟩

end Go.Proofs.YtecakcgkibemaaaGreatDoor
