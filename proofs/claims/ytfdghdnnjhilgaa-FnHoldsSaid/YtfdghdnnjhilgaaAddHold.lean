/-
  Walks: AddHold, by both texts.
-/
import Derived.Test.YtfdghdnnjhilgaaShowOf
import Derived.Test.YtfdghdnnjhilgaaInsertHold
import Derived.Deep.AppendLies
namespace Go.Proofs.Ytfdghdnnjhilgaa
open Go.RowKit

theorem own_low {w : World} {base base' : Nat} {e : TypeId} {size n : Nat} {v : Value} {xs : List Value} (h : w.ownsRow base e size v n xs) (hb : base' ≤ base) : w.ownsRow base' e size v n xs := by
  refine ⟨h.1, h.2.imp id ?_⟩
  rintro ⟨g, cap, cur, hv, hbg, rest⟩
  exact ⟨g, cap, cur, hv, Nat.le_trans hb hbg, rest⟩
def befH (s : Int) (x : SHold) : Bool := decide (x.At < s)
/-- Where a hold at s belongs. -/
def posH (L : List SHold) (s : Int) : Nat := L.findIdx (fun x => !befH s x)
theorem posH_eq {L : List SHold} {s : Int} {k : Nat} (hk : k ≤ L.length) (ha : (L.take k).all (befH s) = true) (hx : ∀ x, L[k]? = some x → befH s x = false) : posH L s = k := by
  have key : ∀ j x, j < k → L[j]? = some x → befH s x = true := fun j x hj hjx => List.all_eq_true.1 ha x (List.mem_iff_getElem?.2 ⟨j, by rw [List.getElem?_take, if_pos hj]; exact hjx⟩)
  unfold posH
  rcases Nat.lt_or_ge k L.length with hlt | hge
  · rw [List.findIdx_eq hlt]
    refine ⟨by simp [hx _ (List.getElem?_eq_getElem hlt)], fun j hj => ?_⟩
    simp [key j _ hj (List.getElem?_eq_getElem (by omega))]
  · have : k = L.length := by omega
    rw [this, List.findIdx_eq_length]
    intro x hm
    obtain ⟨j, hj⟩ := List.mem_iff_getElem?.1 hm
    simp [key j x (by have := (List.getElem?_eq_some_iff.1 hj).1; omega) hj]
def hitH (L : List SHold) (s : Int) : Bool := match L[posH L s]? with
  | some x => x.At == s
  | none => false
def addL (L : List SHold) (s len : Int) : List SHold := L.take (posH L s) ++ ⟨s, len⟩ :: L.drop (posH L s)
/-- What has been collected of the first k: the new hold stands among them, or not yet. -/
def DoneH (L : List SHold) (s len : Int) (k : Nat) (M : List SHold) : Bool → Prop
  | true => ∃ p, p < k ∧ (L.take p).all (befH s) = true ∧ (∀ y, L[p]? = some y → s < y.At) ∧ M = L.take p ++ ⟨s, len⟩ :: (L.take k).drop p
  | false => (L.take k).all (befH s) = true ∧ M = L.take k
noncomputable def addHR (L : List SHold) (r len : Int) : List SHold × Int := if vhs L = false then ([], 1) else if inB len 1 1800000 = false then ([], 2) else if inB r 0 40000000 = false then ([], 2) else
  if hitH L (showV L r) = true then ([], 6) else if L.length = 16 then ([], 5) else (addL L (showV L r) len, 0)
theorem addL_len (L : List SHold) (s len : Int) : (addL L s len).length = L.length + 1 := by
  unfold addL
  rw [List.length_append, List.length_cons, List.length_take, List.length_drop]
  omega
theorem addHR_len (L : List SHold) (r len : Int) : (addHR L r len).1.length ≤ 512 := by
  unfold addHR
  split
  · simp
  · rename_i h
    have h2 := vhs_len (L := L) (by simpa using h)
    repeat' split
    all_goals first
      | (simp only [addL_len]; omega)
      | simp

set_option maxRecDepth 20000 in
set_option maxHeartbeats 4000000 in
theorem iAddHold_any (A : Option Addr) (n c : Nat) (L : List SHold) (r len : Int) (w : World) (hr : Rd w A 2 cHold L) (hn : L.length = n) (hb : n ≤ 4194304) :
    Calls Try.prog 47 #[.slice A n c, .int .i64 r, .int .i64 len] w (Res w 71 2 cHold (addHR L r len)) := by
  have K := Lib.hid (ValidHolds_any A n c L w hr hn hb)
  have Hn := Lib.hid hn
  have HR := Lib.hid hr
  clear hr hn
  cases hv : vhs L
  · have H := Lib.hid (show addHR L r len = ([], 1) by unfold addHR; rw [if_pos hv])
    rw [hv] at K
    clear hv
    go_enter Try.func47, Try.ntmps47
    go_wp2_with (go_at_call 17; refine K.out.mono ?_; rintro e w1 ⟨rfl, g1⟩; have G1 := Lib.hid g1; have s1 := g1.size; clear g1)
    go_ret2
    exact res_nil H.out G1.out
  rw [hv] at K
  have HV := Lib.hid hv
  have HF := Lib.hid (show addHR L r len = if inB len 1 1800000 = false then ([], 2) else if inB r 0 40000000 = false then ([], 2) else
      if hitH L (showV L r) = true then ([], 6) else if n = 16 then ([], 5) else (addL L (showV L r) len, 0) by unfold addHR; rw [if_neg (by rw [hv]; simp), Hn.out])
  clear hv
  cases hl : inB len 1 1800000
  · have H := Lib.hid (show addHR L r len = ([], 2) by rw [HF.out, if_pos hl])
    cases hq : inB r 0 40000000
    all_goals
      go_enter Try.func47, Try.ntmps47
      go_wp2_with (first | (go_at_call 17; refine K.out.mono ?_; rintro e w1 ⟨rfl, g1⟩; have G1 := Lib.hid g1; have s1 := g1.size; clear g1) | (go_at_call 56; refine (within_any _ _ _ _).mono ?_; rintro e w' ⟨rfl, rfl⟩))
      go_ret2
      exact res_nil H.out G1.out
  cases hq : inB r 0 40000000
  · have H := Lib.hid (show addHR L r len = ([], 2) by rw [HF.out, if_neg (by rw [hl]; simp), if_pos hq])
    go_enter Try.func47, Try.ntmps47
    go_wp2_with (first | (go_at_call 17; refine K.out.mono ?_; rintro e w1 ⟨rfl, g1⟩; have G1 := Lib.hid g1; have s1 := g1.size; clear g1) | (go_at_call 56; refine (within_any _ _ _ _).mono ?_; rintro e w' ⟨rfl, rfl⟩))
    go_ret2
    exact res_nil H.out G1.out
  have hrb := inB_iff.1 hq
  obtain ⟨s, HS⟩ : ∃ s, Hid (showV L r = s) := ⟨_, rfl⟩
  have HE := Lib.hid (show addHR L r len = if hitH L s = true then ([], 6) else if n = 16 then ([], 5) else (addL L s len, 0) by rw [HF.out, if_neg (by rw [hl]; simp), if_neg (by rw [hq]; simp), HS.out])
  have hn16 := vhs_len HV.out
  rw [Hn.out] at hn16
  have KS := Lib.hid (fun (w1 : World) (g : G w w1) => showOf_any A n c L r w1 (HR.out.G g) Hn.out HV.out hrb.1 hrb.2)
  rw [HS.out] at KS
  go_enter Try.func47, Try.ntmps47
  go_wp2_with (first | (go_at_call 17; refine K.out.mono ?_; rintro e w1 ⟨rfl, g1⟩; have G1 := Lib.hid g1; have s1 := g1.size; clear g1) | (go_at_call 56; refine (within_any _ _ _ _).mono ?_; rintro e w' ⟨rfl, rfl⟩) | (go_at_call 71; refine (KS.out _ G1.out).mono ?_; rintro e w2 ⟨rfl, g2⟩; have G2 := Lib.hid (G1.out.trans g2); clear g2))
  clear hl hq K HF KS
  go_loop [10] (fun i => ∃ (k : Nat), k ≤ n ∧ i = .int .i64 k ∧ (L.take k).all (befH s) = true) (fun i => n - (intOf i).toNat)
  case atStart => exact ⟨0, Nat.zero_le _, rfl, rfl⟩
  case round =>
    obtain ⟨k, hk, rfl, ha⟩ := hrel
    have HA := Lib.hid ha
    clear ha
    have hk0 : 0 ≤ (k : Int) := by omega
    by_cases hlt : k < n
    · obtain ⟨b, o, x, rfl, hx, hc0, hc1⟩ := (HR.out.G G2.out).Hold (k := k) (by rw [Hn.out]; exact hlt)
      have HX := Lib.hid hx
      clear hx
      have hlt2 : (k : Int) < (n : Int) := by omega
      by_cases hat : x.At < s
      · have H1 := Lib.hid (all_snoc HX.out HA.out (p := befH s) (by unfold befH; simpa using hat))
        go_wp2
        go_round
        case rel => exact ⟨k + 1, by omega, by go_num, H1.out⟩
        case measure => simp [intOf]; omega
      · have HP := Lib.hid (posH_eq (s := s) (by rw [Hn.out]; exact hk) HA.out (fun y hy => by rw [HX.out] at hy; cases hy; unfold befH; simpa using hat))
        by_cases heq : x.At = s
        · have H1 := Lib.hid (show addHR L r len = ([], 6) by rw [HE.out, if_pos (by unfold hitH; rw [HP.out, HX.out]; simpa using heq)])
          have hd : (x.At == s) = true := by simpa using heq
          clear heq
          go_wp2
          go_ret2
          exact res_nil H1.out G2.out
        · have hd : (x.At == s) = false := by simpa using heq
          have HH := Lib.hid (show hitH L s = false by unfold hitH; rw [HP.out, HX.out]; exact hd)
          by_cases h16 : n = 16
          · have H1 := Lib.hid (show addHR L r len = ([], 5) by rw [HE.out, if_neg (by rw [HH.out]; simp), if_pos h16])
            have hd2 : ((n : Int) == 16) = true := by simp [h16]
            clear heq
            go_wp2
            go_ret2
            exact res_nil H1.out G2.out
          · have H1 := Lib.hid (show addHR L r len = (L.take k ++ ⟨s, len⟩ :: L.drop k, 0) by rw [HE.out, if_neg (by rw [HH.out]; simp), if_neg h16, addL, HP.out])
            have hd2 : ((n : Int) == 16) = false := by simp; omega
            clear heq
            go_wp2_with (go_at_call 81; refine (cloneHold_any _ n c L _ (HR.out.G G2.out) Hn.out (by omega)).mono ?_; rintro e w3 ⟨v3, rfl, o3, g3⟩; have G3 := Lib.hid (G2.out.trans g3); have s2 := G2.out.size; have s3 := g3.size; have O3 := Lib.hid o3; clear g3 o3)
            rw [Hn.out] at O3
            have KI := Lib.hid (insertHold_any w2.heap.size n w3.heap.size v3 L ⟨s, len⟩ k (w3.alloc (.cells #[.int .i64 s, .int .i64 len] 71)) (O3.out.alloc _) Hn.out (by omega) (by rw [World.size_alloc]; omega) (by omega) (heap_alloc_new w3 _) (fun q hq => by have := (O3.out.lt q hq).2; omega))
            refine KI.out.mono ?_
            rintro e w4 ⟨v4, rfl, o4, g4⟩
            have O4 := Lib.hid o4
            have G4 := Lib.hid (g4 w s2 (G3.out.alloc _))
            clear o4 g4
            go_wp2
            go_ret2
            exact res_own H1.out (by rw [List.length_append, List.length_cons, List.length_take, List.length_drop, Hn.out]; omega) (own_low O4.out s2) G4.out
    · have hkn : n = k := by omega
      subst hkn
      have hge : (n : Int) ≤ (n : Int) := by omega
      have HP := Lib.hid (posH_eq (s := s) (by rw [Hn.out]; exact hk) HA.out (fun y hy => by have := (List.getElem?_eq_some_iff.1 hy).1; rw [Hn.out] at this; omega))
      have HH := Lib.hid (show hitH L s = false by unfold hitH; rw [HP.out, List.getElem?_eq_none (by rw [Hn.out]; omega)])
      by_cases h16 : n = 16
      · have H1 := Lib.hid (show addHR L r len = ([], 5) by rw [HE.out, if_neg (by rw [HH.out]; simp), if_pos h16])
        have hd2 : ((n : Int) == 16) = true := by simp [h16]
        go_wp2
        go_ret2
        exact res_nil H1.out G2.out
      · have H1 := Lib.hid (show addHR L r len = (L.take n ++ ⟨s, len⟩ :: L.drop n, 0) by rw [HE.out, if_neg (by rw [HH.out]; simp), if_neg h16, addL, HP.out])
        have hd2 : ((n : Int) == 16) = false := by simp; omega
        go_wp2_with (go_at_call 81; refine (cloneHold_any _ n c L _ (HR.out.G G2.out) Hn.out (by omega)).mono ?_; rintro e w3 ⟨v3, rfl, o3, g3⟩; have G3 := Lib.hid (G2.out.trans g3); have s2 := G2.out.size; have s3 := g3.size; have O3 := Lib.hid o3; clear g3 o3)
        rw [Hn.out] at O3
        have KI := Lib.hid (insertHold_any w2.heap.size n w3.heap.size v3 L ⟨s, len⟩ n (w3.alloc (.cells #[.int .i64 s, .int .i64 len] 71)) (O3.out.alloc _) Hn.out (by omega) (by rw [World.size_alloc]; omega) (by omega) (heap_alloc_new w3 _) (fun q hq => by have := (O3.out.lt q hq).2; omega))
        refine KI.out.mono ?_
        rintro e w4 ⟨v4, rfl, o4, g4⟩
        have O4 := Lib.hid o4
        have G4 := Lib.hid (g4 w s2 (G3.out.alloc _))
        clear o4 g4
        go_wp2
        go_ret2
        exact res_own H1.out (by rw [List.length_append, List.length_cons, List.length_take, List.length_drop, Hn.out]; omega) (own_low O4.out s2) G4.out

set_option maxRecDepth 20000 in
set_option maxHeartbeats 4000000 in
theorem sAddHold_any (A : Option Addr) (n c : Nat) (L : List SHold) (r len : Int) (w : World) (hr : Rd w A 2 cHold L) (hn : L.length = n) (hb : n ≤ 4194304) :
    Calls Try.prog 46 #[.slice A n c, .int .i64 r, .int .i64 len] w (Res w 71 2 cHold (addHR L r len)) := by
  obtain ⟨i0, hi, hz0, hz1, hz2⟩ := info_parts infoHold
  have HI := Lib.hid (And.intro hi (And.intro hz0 (And.intro hz1 hz2)))
  clear hi hz0 hz1 hz2
  have K := Lib.hid (l18Holds_any A n c L w hr hn hb)
  have Hn := Lib.hid hn
  have HR := Lib.hid hr
  clear hr hn
  cases hv : vhs L
  · have H := Lib.hid (show addHR L r len = ([], 1) by unfold addHR; rw [if_pos hv])
    rw [hv] at K
    clear hv
    go_enter Try.func46, Try.ntmps46
    go_wp2_with (go_at_call 54; refine K.out.mono ?_; rintro e w1 ⟨rfl, g1⟩; have G1 := Lib.hid g1; have s1 := g1.size; clear g1)
    go_ret2
    exact res_nil H.out G1.out
  rw [hv] at K
  have HV := Lib.hid hv
  have HF := Lib.hid (show addHR L r len = if inB len 1 1800000 = false then ([], 2) else if inB r 0 40000000 = false then ([], 2) else
      if hitH L (showV L r) = true then ([], 6) else if n = 16 then ([], 5) else (addL L (showV L r) len, 0) by unfold addHR; rw [if_neg (by rw [hv]; simp), Hn.out])
  clear hv
  cases hl : inB len 1 1800000
  · have H := Lib.hid (show addHR L r len = ([], 2) by rw [HF.out, if_pos hl])
    cases hq : inB r 0 40000000
    all_goals
      go_enter Try.func46, Try.ntmps46
      go_wp2_with (first | (go_at_call 54; refine K.out.mono ?_; rintro e w1 ⟨rfl, g1⟩; have G1 := Lib.hid g1; have s1 := g1.size; clear g1) | (go_at_call 69; refine (l18Time_any _ _).mono ?_; rintro e w' ⟨rfl, rfl⟩) | (go_at_call 78; refine (l00In_any _ _ _ _).mono ?_; rintro e w' ⟨rfl, rfl⟩))
      go_ret2
      exact res_nil H.out G1.out
  cases hq : inB r 0 40000000
  · have H := Lib.hid (show addHR L r len = ([], 2) by rw [HF.out, if_neg (by rw [hl]; simp), if_pos hq])
    go_enter Try.func46, Try.ntmps46
    go_wp2_with (first | (go_at_call 54; refine K.out.mono ?_; rintro e w1 ⟨rfl, g1⟩; have G1 := Lib.hid g1; have s1 := g1.size; clear g1) | (go_at_call 69; refine (l18Time_any _ _).mono ?_; rintro e w' ⟨rfl, rfl⟩) | (go_at_call 78; refine (l00In_any _ _ _ _).mono ?_; rintro e w' ⟨rfl, rfl⟩))
    go_ret2
    exact res_nil H.out G1.out
  have hrb := inB_iff.1 hq
  obtain ⟨s, HS⟩ : ∃ s, Hid (showV L r = s) := ⟨_, rfl⟩
  have HE := Lib.hid (show addHR L r len = if hitH L s = true then ([], 6) else if n = 16 then ([], 5) else (addL L s len, 0) by rw [HF.out, if_neg (by rw [hl]; simp), if_neg (by rw [hq]; simp), HS.out])
  have hn16 := vhs_len HV.out
  rw [Hn.out] at hn16
  have KS := Lib.hid (fun (w1 : World) (g : G w w1) => l18Show_any A n c L r w1 (HR.out.G g) Hn.out HV.out hrb.1 hrb.2)
  rw [HS.out] at KS
  go_enter Try.func46, Try.ntmps46
  go_wp2_with (first | (go_at_call 54; refine K.out.mono ?_; rintro e w1 ⟨rfl, g1⟩; have G1 := Lib.hid g1; have s1 := g1.size; clear g1) | (go_at_call 69; refine (l18Time_any _ _).mono ?_; rintro e w' ⟨rfl, rfl⟩) | (go_at_call 78; refine (l00In_any _ _ _ _).mono ?_; rintro e w' ⟨rfl, rfl⟩) | (go_at_call 70; refine (KS.out _ G1.out).mono ?_; rintro e w2 ⟨rfl, g2⟩; have G2 := Lib.hid (G1.out.trans g2); have s2 := G2.out.size; clear g2))
  clear hl hq K HF KS
  go_loopw [10, 11, 12] (fun v d i wr => ∃ (k : Nat) (dn : Bool) (m : Nat) (M : List SHold), k ≤ n ∧ i = .int .i64 k ∧ d = .bool dn ∧ m ≤ k + 1 ∧ Hid (M.length = m) ∧ Hid (DoneH L s len k M dn) ∧ Hid (wr.ownsRow w.heap.size 71 2 v m (M.flatMap cHold)) ∧ Hid (G w wr)) (fun _ _ i _ => n - (intOf i).toNat)
  case atStart => exact ⟨0, false, 0, [], Nat.zero_le _, rfl, rfl, by omega, Lib.hid rfl, Lib.hid ⟨rfl, rfl⟩, Lib.hid (World.ownsRow_lit (size := 2) _ #[] 0 s2 (by unfold maxLen; omega) rfl), Lib.hid (G2.out.alloc _)⟩
  case round =>
    obtain ⟨k, dn, m, M, hk, rfl, rfl, hmk, HM, HD, HO1, G3⟩ := hrel
    have hk0 : 0 ≤ (k : Int) := by omega
    have hsz := G3.out.size
    by_cases hlt : k < n
    · obtain ⟨b, o, x, rfl, hx, hc0, hc1⟩ := HR.out.Hold (k := k) (by rw [Hn.out]; exact hlt)
      have HX := Lib.hid hx
      have C0 := Lib.hid hc0
      have C1 := Lib.hid hc1
      have hd0 := G3.out.cell hc0
      have hd1 := G3.out.cell hc1
      clear hx hc0 hc1
      have hlt2 : (k : Int) < (n : Int) := by omega
      cases dn with
      | true =>
        obtain ⟨p, hp, hpa, hps, hM⟩ := HD.out
        have hgt : s < x.At := by
          have hpl : p < L.length := by rw [Hn.out]; omega
          have h1 := hps _ (List.getElem?_eq_getElem hpl)
          have h2 := vhs_rises HV.out (List.getElem?_eq_getElem hpl) HX.out hp
          omega
        have hq1 : (x.At == s) = false := by simp; omega
        have HN := Lib.hid (show DoneH L s len (k + 1) (M ++ [x]) true by
          refine ⟨p, by omega, hpa, hps, ?_⟩
          rw [hM, take_snoc HX.out, List.drop_append_of_le_length (by rw [List.length_take, Hn.out]; omega)]
          simp)
        clear hpa hps hM
        go_wp2_with (at_builtin; refine wpList_append_own _ rfl (.tmp 61) (.tmp 66) 25 rfl w.heap.size 71 i0 (.agg #[.int .i64 0, .int .i64 0]) 2 16 Try.underlying25 HI.out.1 HI.out.2.1 HI.out.2.2.1 HI.out.2.2.2 rfl (by decide) _ (m) _ rfl (HO1.out.alloc _) ⟨wr.heap.size, 0, none⟩ 1 1 (cHold x) rfl rfl (block_news _ (cHold x) _) (cHold_one _) ?c1 ?c2 ?c3 ?_)
        case c1 => unfold maxLen; omega
        case c2 => omega
        case c3 => first | omega | (simp; omega)
        intro v_w4 w4 hown hgrow _
        have O4 := Lib.hid (show w4.ownsRow w.heap.size 71 2 v_w4 (m + 1) ((M ++ [x]).flatMap cHold) by rw [show M ++ [x] = M ++ [x] from rfl, List.flatMap_append]; simpa using hown)
        have s_w4 := World.grownBy.size hgrow
        simp only [World.size_alloc] at s_w4
        have G4 := Lib.hid ((G3.out.alloc _).grown hgrow (own_block_of HO1.out))
        clear hown hgrow
        go_wp2
        go_roundw
        case rel => exact ⟨k + 1, true, m + 1, M ++ [x], by omega, by go_num, rfl, by omega, Lib.hid (by rw [List.length_append, HM.out]; rfl), HN, O4, G4⟩
        case measure => simp [intOf]; omega
      | false =>
        obtain ⟨hpa, hM⟩ := HD.out
        have HPA := Lib.hid hpa
        have HMM := Lib.hid hM
        have hmk2 : m ≤ k := by rw [← HM.out, hM, List.length_take]; omega
        clear hpa hM
        by_cases heq : x.At = s
        · have H1 := Lib.hid (show addHR L r len = ([], 6) by rw [HE.out, if_pos (by unfold hitH; rw [posH_eq (s := s) (by rw [Hn.out]; exact hk) HPA.out (fun y hy => by rw [HX.out] at hy; cases hy; unfold befH; simp; omega), HX.out]; simpa using heq)])
          have hd : (x.At == s) = true := by simpa using heq
          clear heq
          go_wp2
          go_ret2
          exact res_nil H1.out G3.out
        · have hq1 : (x.At == s) = false := by simpa using heq
          clear heq
          have hle : ¬ x.At = s := by simpa using hq1
          by_cases hgt : s < x.At
          · have HN := Lib.hid (show DoneH L s len (k + 1) (M ++ [(⟨s, len⟩ : SHold)] ++ [x]) true by
              refine ⟨k, by omega, HPA.out, fun y hy => by rw [HX.out] at hy; cases hy; exact hgt, ?_⟩
              rw [HMM.out, take_snoc HX.out, List.drop_append, List.length_take, Hn.out, Nat.min_eq_left (by omega), Nat.sub_self, List.drop_zero, List.drop_of_length_le (by rw [List.length_take]; omega)]
              simp)
            clear hle
            go_wp2_with (at_builtin; refine wpList_append_own _ rfl (.tmp 55) (.tmp 59) 25 rfl w.heap.size 71 i0 (.agg #[.int .i64 0, .int .i64 0]) 2 16 Try.underlying25 HI.out.1 HI.out.2.1 HI.out.2.2.1 HI.out.2.2.2 rfl (by decide) _ (m) _ rfl (HO1.out.alloc _) ⟨wr.heap.size, 0, none⟩ 1 1 (cHold ⟨s, len⟩) rfl rfl (block_news _ (cHold ⟨s, len⟩) _) (cHold_one _) ?c1 ?c2 ?c3 ?_)
            case c1 => unfold maxLen; omega
            case c2 => omega
            case c3 => first | omega | (simp; omega)
            intro v_w4 w4 hown hgrow _
            have O4 := Lib.hid (show w4.ownsRow w.heap.size 71 2 v_w4 (m + 1) ((M ++ [(⟨s, len⟩ : SHold)]).flatMap cHold) by rw [show M ++ [(⟨s, len⟩ : SHold)] = M ++ [(⟨s, len⟩ : SHold)] from rfl, List.flatMap_append]; simpa using hown)
            have s_w4 := World.grownBy.size hgrow
            simp only [World.size_alloc] at s_w4
            have G4 := Lib.hid ((G3.out.alloc _).grown hgrow (own_block_of HO1.out))
            clear hown hgrow
            have he0 := G4.out.cell C0.out
            have he1 := G4.out.cell C1.out
            go_wp2_with (at_builtin; refine wpList_append_own _ rfl (.tmp 61) (.tmp 66) 25 rfl w.heap.size 71 i0 (.agg #[.int .i64 0, .int .i64 0]) 2 16 Try.underlying25 HI.out.1 HI.out.2.1 HI.out.2.2.1 HI.out.2.2.2 rfl (by decide) _ (m + 1) _ rfl (O4.out.alloc _) ⟨w4.heap.size, 0, none⟩ 1 1 (cHold x) rfl rfl (block_news _ (cHold x) _) (cHold_one _) ?c1 ?c2 ?c3 ?_)
            case c1 => unfold maxLen; omega
            case c2 => omega
            case c3 => first | omega | (simp; omega)
            intro v_w5 w5 hown hgrow _
            have O5 := Lib.hid (show w5.ownsRow w.heap.size 71 2 v_w5 (m + 1 + 1) ((M ++ [(⟨s, len⟩ : SHold)] ++ [x]).flatMap cHold) by rw [show M ++ [(⟨s, len⟩ : SHold)] ++ [x] = (M ++ [(⟨s, len⟩ : SHold)]) ++ [x] from rfl, List.flatMap_append]; simpa using hown)
            have s_w5 := World.grownBy.size hgrow
            simp only [World.size_alloc] at s_w5
            have G5 := Lib.hid ((G4.out.alloc _).grown hgrow (own_block_of O4.out))
            clear hown hgrow
            go_wp2
            go_roundw
            case rel => exact ⟨k + 1, true, m + 1 + 1, M ++ [(⟨s, len⟩ : SHold)] ++ [x], by omega, by go_num, rfl, by omega, Lib.hid (by rw [List.length_append, List.length_append, HM.out]; rfl), HN, O5, G5⟩
            case measure => simp [intOf]; omega
          · have HN := Lib.hid (show DoneH L s len (k + 1) (M ++ [x]) false by
              exact ⟨all_snoc HX.out HPA.out (p := befH s) (by unfold befH; simp; omega), by rw [HMM.out, take_snoc HX.out]⟩)
            clear hle
            go_wp2_with (at_builtin; refine wpList_append_own _ rfl (.tmp 61) (.tmp 66) 25 rfl w.heap.size 71 i0 (.agg #[.int .i64 0, .int .i64 0]) 2 16 Try.underlying25 HI.out.1 HI.out.2.1 HI.out.2.2.1 HI.out.2.2.2 rfl (by decide) _ (m) _ rfl (HO1.out.alloc _) ⟨wr.heap.size, 0, none⟩ 1 1 (cHold x) rfl rfl (block_news _ (cHold x) _) (cHold_one _) ?c1 ?c2 ?c3 ?_)
            case c1 => unfold maxLen; omega
            case c2 => omega
            case c3 => first | omega | (simp; omega)
            intro v_w4 w4 hown hgrow _
            have O4 := Lib.hid (show w4.ownsRow w.heap.size 71 2 v_w4 (m + 1) ((M ++ [x]).flatMap cHold) by rw [show M ++ [x] = M ++ [x] from rfl, List.flatMap_append]; simpa using hown)
            have s_w4 := World.grownBy.size hgrow
            simp only [World.size_alloc] at s_w4
            have G4 := Lib.hid ((G3.out.alloc _).grown hgrow (own_block_of HO1.out))
            clear hown hgrow
            go_wp2
            go_roundw
            case rel => exact ⟨k + 1, false, m + 1, M ++ [x], by omega, by go_num, rfl, by omega, Lib.hid (by rw [List.length_append, HM.out]; rfl), HN, O4, G4⟩
            case measure => simp [intOf]; omega
    · have hkn : k = n := by omega
      have HTK := Lib.hid (show L.take k = L from List.take_of_length_le (by rw [Hn.out]; omega))
      have hge : (n : Int) ≤ (k : Int) := by omega
      cases dn with
      | true =>
        obtain ⟨p, hp, hpa, hps, hM⟩ := HD.out
        have HP := Lib.hid (posH_eq (s := s) (k := p) (by rw [Hn.out]; omega) hpa (fun y hy => by have := hps y hy; unfold befH; simp; omega))
        have HH := Lib.hid (show hitH L s = false by
          unfold hitH
          have hpl : p < L.length := by rw [Hn.out]; omega
          rw [HP.out, List.getElem?_eq_getElem hpl]
          have := hps _ (List.getElem?_eq_getElem hpl)
          simp; omega)
        have HML := Lib.hid (show M = addL L s len by rw [hM, addL, HP.out, HTK.out])
        clear hpa hps hM
        by_cases h16 : n = 16
        · have H1 := Lib.hid (show addHR L r len = ([], 5) by rw [HE.out, if_neg (by rw [HH.out]; simp), if_pos h16])
          have hd2 : ((n : Int) == 16) = true := by simp [h16]
          go_wp2
          go_ret2
          exact res_nil H1.out G3.out
        · have H1 := Lib.hid (show addHR L r len = (M, 0) by rw [HE.out, if_neg (by rw [HH.out]; simp), if_neg h16, HML.out])
          have hd2 : ((n : Int) == 16) = false := by simp; omega
          go_wp2
          go_ret2
          exact res_own H1.out HM.out HO1.out G3.out
      | false =>
        obtain ⟨hpa, hM⟩ := HD.out
        have HP := Lib.hid (posH_eq (s := s) (k := k) (by rw [Hn.out]; omega) hpa (fun y hy => by have := (List.getElem?_eq_some_iff.1 hy).1; rw [Hn.out] at this; omega))
        have HH := Lib.hid (show hitH L s = false by unfold hitH; rw [HP.out, List.getElem?_eq_none (by rw [Hn.out]; omega)])
        have HML := Lib.hid (show M ++ [(⟨s, len⟩ : SHold)] = addL L s len by rw [hM, addL, HP.out, List.drop_of_length_le (by rw [Hn.out]; omega)])
        clear hpa hM
        go_wp2_with (at_builtin; refine wpList_append_own _ rfl (.tmp 70) (.tmp 74) 25 rfl w.heap.size 71 i0 (.agg #[.int .i64 0, .int .i64 0]) 2 16 Try.underlying25 HI.out.1 HI.out.2.1 HI.out.2.2.1 HI.out.2.2.2 rfl (by decide) _ (m) _ rfl (HO1.out.alloc _) ⟨wr.heap.size, 0, none⟩ 1 1 (cHold ⟨s, len⟩) rfl rfl (block_news _ (cHold ⟨s, len⟩) _) (cHold_one _) ?c1 ?c2 ?c3 ?_)
        case c1 => unfold maxLen; omega
        case c2 => omega
        case c3 => first | omega | (simp; omega)
        intro v_w4 w4 hown hgrow _
        have O4 := Lib.hid (show w4.ownsRow w.heap.size 71 2 v_w4 (m + 1) ((M ++ [(⟨s, len⟩ : SHold)]).flatMap cHold) by rw [show M ++ [(⟨s, len⟩ : SHold)] = M ++ [(⟨s, len⟩ : SHold)] from rfl, List.flatMap_append]; simpa using hown)
        have s_w4 := World.grownBy.size hgrow
        simp only [World.size_alloc] at s_w4
        have G4 := Lib.hid ((G3.out.alloc _).grown hgrow (own_block_of HO1.out))
        clear hown hgrow
        by_cases h16 : n = 16
        · have H1 := Lib.hid (show addHR L r len = ([], 5) by rw [HE.out, if_neg (by rw [HH.out]; simp), if_pos h16])
          have hd2 : ((n : Int) == 16) = true := by simp [h16]
          go_wp2
          go_ret2
          exact res_nil H1.out G4.out
        · have H1 := Lib.hid (show addHR L r len = (M ++ [(⟨s, len⟩ : SHold)], 0) by rw [HE.out, if_neg (by rw [HH.out]; simp), if_neg h16, HML.out])
          have hd2 : ((n : Int) == 16) = false := by simp; omega
          go_wp2
          go_ret2
          exact res_own H1.out (by rw [List.length_append, HM.out]; rfl) O4.out G4.out
end Go.Proofs.Ytfdghdnnjhilgaa
