/-
  Walks: DropFixture, by both texts.
-/
import Derived.Test.YthghcpgeddepnaaDeleteFixture
import Derived.Test.YthghcpgeddepnaaFreeAddress
import Derived.Test.YthghcpgeddepnaaIntsG
namespace Go.Proofs.Ythghcpgeddepnaa
open Go.RowKit

theorem bl_trans : ∀ a b c : List UInt8, Op.bytesLess a b = true → Op.bytesLess b c = true → Op.bytesLess a c = true
  | [], [], _, h, _ => by simp [Op.bytesLess] at h
  | _ :: _, [], _, h, _ => by simp [Op.bytesLess] at h
  | _, _ :: _, [], _, h => by simp [Op.bytesLess] at h
  | [], _ :: _, _ :: _, _, _ => by simp [Op.bytesLess]
  | a :: x, b :: y, c :: z, h, k => by
    simp only [Op.bytesLess, Bool.or_eq_true, Bool.and_eq_true, decide_eq_true_eq, beq_iff_eq] at h k ⊢
    rcases h with h | ⟨rfl, h⟩ <;> rcases k with k | ⟨rfl, k⟩
    · exact .inl (UInt8.lt_trans h k)
    · exact .inl h
    · exact .inl k
    · exact .inr ⟨rfl, bl_trans x y z h k⟩
theorem bl_irrefl : ∀ a : List UInt8, Op.bytesLess a a = false
  | [] => rfl
  | a :: x => by simp [Op.bytesLess, bl_irrefl x]
theorem chk_far {α : Type} {p : α → Bool} {r : α → α → Bool} (ht : ∀ a b c, r a b = true → r b c = true → r a c = true) {L : List α} (h : chk p r L = true) {i : Nat} {x : α} (hx : L[i]? = some x) : ∀ (d : Nat) (y : α), L[i + d + 1]? = some y → r x y = true := by
  intro d
  induction d with
  | zero => intro y hy; exact chk_rel h hy hx
  | succ d ih =>
    intro y hy
    have hlt := (List.getElem?_eq_some_iff.1 hy).1
    have hz : L[i + d + 1]? = some (L[i + d + 1]'(by omega)) := List.getElem?_eq_getElem (by omega)
    exact ht _ _ _ (ih _ hz) (chk_rel h (by rw [show i + d + 1 + 1 = i + (d + 1) + 1 by omega]; exact hy) hz)
theorem own_low' {w : World} {base base' : Nat} {e : TypeId} {size n : Nat} {v : Value} {xs : List Value} (h : w.ownsRow base e size v n xs) (hb : base' ≤ base) : w.ownsRow base' e size v n xs := by
  refine ⟨h.1, h.2.imp id ?_⟩
  rintro ⟨g, cap, cur, hv, hbg, rest⟩
  exact ⟨g, cap, cur, hv, Nat.le_trans hb hbg, rest⟩
def nmP (s : ByteArray) (x : SFixture) : Bool := x.Name.toList == s.toList
theorem vfs_lt {L : List SFixture} (h : vfs L = true) {i j : Nat} {x y : SFixture} (hx : L[i]? = some x) (hy : L[j]? = some y) (hij : i < j) : ltF x y = true := by
  obtain ⟨d, rfl⟩ : ∃ d, j = i + d + 1 := ⟨j - i - 1, by omega⟩
  exact chk_far (p := vfB) (r := ltF) (fun a b c (h1 : ltF a b = true) h2 => (show ltF a c = true from bl_trans _ _ _ h1 h2)) (vfs_chk h) hx d y hy
theorem vfs_name {L : List SFixture} (h : vfs L = true) {s : ByteArray} {i j : Nat} {x y : SFixture} (hx : L[i]? = some x) (hy : L[j]? = some y) (px : nmP s x = true) (py : nmP s y = true) : i = j := by
  simp only [nmP, beq_iff_eq] at px py
  rcases Nat.lt_trichotomy i j with hij | hij | hij
  · have := vfs_lt h hx hy hij
    unfold ltF ltS at this
    rw [px, py, bl_irrefl] at this; cases this
  · exact hij
  · have := vfs_lt h hy hx hij
    unfold ltF ltS at this
    rw [px, py, bl_irrefl] at this; cases this
theorem filter_erase {α : Type} {p : α → Bool} {L : List α} {k : Nat} {x : α} (hx : L[k]? = some x) (px : p x = true) (ho : ∀ j y, L[j]? = some y → p y = true → j = k) : L.eraseIdx k = L.filter (fun y => !p y) := by
  obtain ⟨hk, rfl⟩ := List.getElem?_eq_some_iff.1 hx
  rw [List.eraseIdx_eq_take_drop_succ]
  conv => rhs; rw [← List.take_append_drop k L, List.drop_eq_getElem_cons hk, List.filter_append, List.filter_cons]
  rw [if_neg (by rw [px]; simp)]
  congr 1
  · rw [List.filter_eq_self.2]
    intro y hy
    obtain ⟨j, hj⟩ := List.mem_iff_getElem?.1 hy
    rw [List.getElem?_take] at hj
    split at hj
    · cases hp : p y
      · rfl
      · have := ho j y hj hp; omega
    · cases hj
  · rw [List.filter_eq_self.2]
    intro y hy
    obtain ⟨j, hj⟩ := List.mem_iff_getElem?.1 hy
    rw [List.getElem?_drop] at hj
    cases hp : p y
    · rfl
    · have := ho _ y hj hp; omega
def dropR (L : List SFixture) (s : ByteArray) : List SFixture × Int := if vfs L = false then ([], 1) else if L.any (nmP s) = false then ([], 3) else (L.filter (fun y => !nmP s y), 0)
theorem dropR_len (L : List SFixture) (s : ByteArray) : (dropR L s).1.length ≤ 512 := by
  unfold dropR
  split
  · simp
  · rename_i h
    split
    · simp
    · have h1 := vfs_len (L := L) (by simpa using h)
      have h2 := List.length_filter_le (fun y => !nmP s y) L
      simp only
      omega

set_option maxHeartbeats 1000000 in
theorem dropClosure_any (s : ByteArray) (x : SFixture) (b : Nat) (w : World) (hc : w.cell? ⟨b, 0, none⟩ = some (.string s)) :
    Calls Try.prog 72 #[.agg #[.string x.Name, .int .i64 x.Universe, .int .i64 x.Address, .int .i64 x.Width], .pointer (some ⟨b, 0, none⟩)] w fun e w' => e = .returned (.bool (nmP s x)) ∧ G w w' := by
  have d0 := ((G.refl w).alloc (.cells #[.string x.Name, .int .i64 x.Universe, .int .i64 x.Address, .int .i64 x.Width] 26)).cell hc
  clear hc
  go_enter Try.func72, Try.ntmps72
  go_wp2
  go_ret
  exact ⟨rfl, (G.refl _).alloc _⟩

set_option maxRecDepth 20000 in
set_option maxHeartbeats 2000000 in
theorem dropIx_any (s : ByteArray) (b : Nat) (A : Option Addr) (n c : Nat) (L : List SFixture) (w : World) (hr : Rd w A 4 cFixture L) (hn : L.length = n) (hb : n ≤ 4194304) (hc0 : w.cell? ⟨b, 0, none⟩ = some (.string s)) :
    Calls Try.prog 71 #[.slice A n c, .func (.func 72) #[] #[.pointer (some ⟨b, 0, none⟩)]] w fun e w' => e = .returned (.int .i64 (idxOf (nmP s) L)) ∧ G w w' := by
  have Hn := Lib.hid hn
  have HR := Lib.hid hr
  clear hr hn
  have C0 := Lib.hid hc0
  clear hc0
  go_enter Try.func71, Try.ntmps71
  go_wp2
  go_loopw [8] (fun i wr => ∃ k : Nat, k ≤ n ∧ i = .int .i64 k ∧ (L.take k).all (fun y => !(nmP s) y) = true ∧ G w wr) (fun i _ => n - (intOf i).toNat)
  case atStart => exact ⟨0, Nat.zero_le _, rfl, by simp, G.refl _⟩
  case round =>
    obtain ⟨k, hk, rfl, ha, hg⟩ := hrel
    have HA := Lib.hid ha
    have G0 := Lib.hid hg
    clear ha hg
    by_cases hlt : k < n
    · obtain ⟨b1, o, x, rfl, hx, hc0, hc1, hc2, hc3⟩ := (HR.out.G G0.out).Fixture (k := k) (by rw [Hn.out]; exact hlt)
      have HX := Lib.hid hx
      have K := Lib.hid (dropClosure_any s x b wr (G0.out.cell C0.out))
      clear hx
      cases hv : (nmP s) x
      · rw [hv] at K
        have H := Lib.hid (all_snoc (p := fun y => !(nmP s) y) HX.out HA.out (by simp [hv]))
        clear hv
        go_wp2_with (go_at_call 72; refine K.out.mono ?_; rintro e w1 ⟨rfl, g1⟩; have G1 := Lib.hid (G0.out.trans g1); clear g1)
        go_roundw
        case rel => exact ⟨k + 1, by omega, by go_num, H.out, G1.out⟩
        case measure => simp [intOf]; omega
      · rw [hv] at K
        have H := Lib.hid (idxOf_hit HX.out HA.out hv)
        clear hv
        go_wp2_with (go_at_call 72; refine K.out.mono ?_; rintro e w1 ⟨rfl, g1⟩; have G1 := Lib.hid (G0.out.trans g1); clear g1)
        go_ret
        exact ⟨ret_int H.out.symm, G1.out⟩
    · have H := Lib.hid (idxOf_none (p := (nmP s)) (all_take_all (by rw [Hn.out]; omega) HA.out))
      go_wp2
      go_ret
      exact ⟨ret_int H.out.symm, G0.out⟩

set_option maxRecDepth 20000 in
set_option maxHeartbeats 2000000 in
theorem iDropFixture_any (A : Option Addr) (n c : Nat) (L : List SFixture) (s : ByteArray) (w : World) (hr : Rd w A 4 cFixture L) (hn : L.length = n) (hb : n ≤ 4194304) (hcap : n ≤ c) (hwf : ∀ x ∈ L, WfFixture x) (_hs : s.size ≤ maxLen) :
    Calls Try.prog 43 #[.slice A n c, .string s] w (Res w 26 4 cFixture (dropR L s)) := by
  have K := Lib.hid (ValidFixtures_any A n c L (w.alloc (.cells #[.string s] 9)) (hr.G ((G.refl w).alloc _)) hn hb hcap hwf)
  have C0 := Lib.hid (show (w.alloc (.cells #[.string s] 9)).cell? ⟨w.heap.size, 0, none⟩ = some (.string s) from World.cell?_alloc_at _ _ _ _ rfl)
  have Hn := Lib.hid hn
  have HR := Lib.hid hr
  clear hr hn hwf
  cases hv : vfs L
  · have H := Lib.hid (show dropR L s = ([], 1) by unfold dropR; rw [if_pos hv])
    rw [hv] at K
    clear hv
    go_enter Try.func43, Try.ntmps43
    go_wp2_with (go_at_call 36; refine K.out.mono ?_; rintro e w1 ⟨rfl, g1⟩; have G1 := Lib.hid (((G.refl w).alloc _).trans g1); have c0 := g1.cell C0.out; clear g1)
    go_ret2
    exact res_nil H.out G1.out
  rw [hv] at K
  have HV := Lib.hid hv
  have HF := Lib.hid (show dropR L s = if L.any (nmP s) = false then ([], 3) else (L.filter (fun y => !nmP s y), 0) by unfold dropR; rw [if_neg (by rw [hv]; simp)])
  clear hv
  have KI := Lib.hid (fun (w1 : World) (g : G w w1) (hc : w1.cell? ⟨w.heap.size, 0, none⟩ = some (.string s)) => dropIx_any s w.heap.size A n c L w1 (HR.out.G g) Hn.out hb hc)
  rcases idxOf_cases (nmP s) L with ⟨hi, hany⟩ | ⟨j, y, hi, hy, hp, hany⟩
  · rw [hi] at KI
    have H := Lib.hid (show dropR L s = ([], 3) by rw [HF.out, if_pos hany])
    clear hi hany
    go_enter Try.func43, Try.ntmps43
    go_wp2_with (first | (go_at_call 36; refine K.out.mono ?_; rintro e w1 ⟨rfl, g1⟩; have G1 := Lib.hid (((G.refl w).alloc _).trans g1); have c0 := g1.cell C0.out; clear g1) | (go_at_call 71; refine (KI.out _ G1.out c0).mono ?_; rintro e w2 ⟨rfl, g2⟩; have G2 := Lib.hid (G1.out.trans g2); clear g2))
    go_ret2
    exact res_nil H.out G2.out
  · rw [hi] at KI
    have hjn : j < n := by rw [← Hn.out]; exact (List.getElem?_eq_some_iff.1 hy).1
    have H := Lib.hid (show dropR L s = (L.eraseIdx j, 0) by rw [HF.out, if_neg (by rw [hany]; simp), filter_erase hy hp (fun i z hz pz => vfs_name HV.out hz hy pz hp)])
    have HLE := Lib.hid (show (L.eraseIdx j).length = n - 1 by rw [List.length_eraseIdx, Hn.out, if_pos hjn])
    clear hi hany hy hp
    go_enter Try.func43, Try.ntmps43
    go_wp2_with (first | (go_at_call 36; refine K.out.mono ?_; rintro e w1 ⟨rfl, g1⟩; have G1 := Lib.hid (((G.refl w).alloc _).trans g1); have c0 := g1.cell C0.out; clear g1) | (go_at_call 71; refine (KI.out _ G1.out c0).mono ?_; rintro e w2 ⟨rfl, g2⟩; have G2 := Lib.hid (G1.out.trans g2); clear g2 c0) | (go_at_call 74; refine (cloneFixture_any A n c L _ (HR.out.G G2.out) Hn.out hb).mono ?_; rintro e w3 ⟨v3, rfl, o3, g3⟩; have G3 := Lib.hid (G2.out.trans g3); have s2 := G2.out.size; have O3 := Lib.hid o3; clear g3 o3))
    rw [Hn.out] at O3
    rcases O3.out.2 with ⟨_, h0⟩ | ⟨g, cap, cur, hv, _⟩
    · omega
    subst hv
    go_wp2_with (go_at_call 73; refine (deleteFixture_any w2.heap.size g n cap j L _ O3.out Hn.out hb hjn).mono ?_; rintro e w4 ⟨rfl, o4, g4⟩; have G4 := Lib.hid (Gx.G G3.out g4 (by intro k hk; cases hk; have := (O3.out.lt _ rfl).1; omega)); have O4 := Lib.hid o4; clear g4 o4)
    go_ret2
    exact res_own H.out HLE.out (own_low' O4.out s2) G4.out

theorem filter_snoc {p : SFixture → Bool} {L : List SFixture} {k : Nat} {x : SFixture} (hx : L[k]? = some x) : (L.take (k + 1)).filter p = (L.take k).filter p ++ (if p x = true then [x] else []) := by
  rw [take_snoc hx, List.filter_append, List.filter_cons]
  split <;> simp

set_option maxRecDepth 20000 in
set_option maxHeartbeats 2000000 in
theorem sDropFixture_any (A : Option Addr) (n c : Nat) (L : List SFixture) (s : ByteArray) (w : World) (hr : Rd w A 4 cFixture L) (hn : L.length = n) (hb : n ≤ 4194304) (_hcap : n ≤ c) (hwf : ∀ x ∈ L, WfFixture x) (_hs : s.size ≤ maxLen) :
    Calls Try.prog 42 #[.slice A n c, .string s] w (Res w 26 4 cFixture (dropR L s)) := by
  obtain ⟨i0, hi, hz0, hz1, hz2⟩ := info_parts infoFixture
  have HI := Lib.hid (And.intro hi (And.intro hz0 (And.intro hz1 hz2)))
  clear hi hz0 hz1 hz2
  have K := Lib.hid (l20Ok_any A n c L w hr hn hb hwf)
  have Hn := Lib.hid hn
  have HR := Lib.hid hr
  clear hr hn hwf
  cases hv : vfs L
  · have H := Lib.hid (show dropR L s = ([], 1) by unfold dropR; rw [if_pos hv])
    rw [hv] at K
    clear hv
    go_enter Try.func42, Try.ntmps42
    go_wp2_with (go_at_call 65; refine K.out.mono ?_; rintro e w1 ⟨rfl, g1⟩; have G1 := Lib.hid g1; have s1 := g1.size; clear g1)
    go_ret2
    exact res_nil H.out G1.out
  rw [hv] at K
  have HF := Lib.hid (show dropR L s = if L.any (nmP s) = false then ([], 3) else (L.filter (fun y => !nmP s y), 0) by unfold dropR; rw [if_neg (by rw [hv]; simp)])
  have hn16 := vfs_len hv
  rw [Hn.out] at hn16
  clear hv
  go_enter Try.func42, Try.ntmps42
  go_wp2_with (go_at_call 65; refine K.out.mono ?_; rintro e w1 ⟨rfl, g1⟩; have G1 := Lib.hid g1; have s1 := g1.size; clear g1)
  clear K
  go_loopw [6, 7] (fun v i wr => ∃ (k m : Nat), k ≤ n ∧ m ≤ k ∧ i = .int .i64 k ∧ Hid (((L.take k).filter (fun y => !nmP s y)).length = m) ∧ Hid (wr.ownsRow w.heap.size 26 4 v m (((L.take k).filter (fun y => !nmP s y)).flatMap cFixture)) ∧ Hid (G w wr)) (fun _ i _ => n - (intOf i).toNat)
  case atStart => exact ⟨0, 0, Nat.zero_le _, Nat.le_refl _, rfl, Lib.hid rfl, Lib.hid (World.ownsRow_lit (size := 4) _ #[] 0 s1 (by unfold maxLen; omega) rfl), Lib.hid (G1.out.alloc _)⟩
  case round =>
    obtain ⟨k, m, hk, hmk, rfl, HM, HO1, G0⟩ := hrel
    have hsz := G0.out.size
    by_cases hlt : k < n
    · obtain ⟨b, o, x, rfl, hx, hc0, hc1, hc2, hc3⟩ := (HR.out.G G0.out).Fixture (k := k) (by rw [Hn.out]; exact hlt)
      have HX := Lib.hid hx
      clear hx
      have HFS := Lib.hid (filter_snoc (p := fun y => !nmP s y) HX.out)
      cases hp : nmP s x
      · have HFT := Lib.hid (show (L.take (k + 1)).filter (fun y => !nmP s y) = (L.take k).filter (fun y => !nmP s y) ++ [x] by rw [HFS.out, if_pos (by simp [hp])])
        have hq : (x.Name.toList == s.toList) = false := hp
        clear hp
        go_wp2_with (at_builtin; refine wpList_append_own _ rfl (.tmp 25) (.tmp 30) 50 rfl w.heap.size 26 i0 (.agg #[.string ⟨#[]⟩, .int .i64 0, .int .i64 0, .int .i64 0]) 4 40 Try.underlying50 HI.out.1 HI.out.2.1 HI.out.2.2.1 HI.out.2.2.2 rfl (by decide) _ m _ rfl (HO1.out.alloc _) ⟨wr.heap.size, 0, none⟩ 1 1 (cFixture x) rfl rfl (block_news _ (cFixture x) _) (cFixture_one x) ?c1 ?c2 ?c3 ?_)
        case c1 => unfold maxLen; omega
        case c2 => omega
        case c3 => simp; omega
        intro v' w1 hown hgrow _
        have HO2 := Lib.hid (show w1.ownsRow w.heap.size 26 4 v' (m + 1) (((L.take (k + 1)).filter (fun y => !nmP s y)).flatMap cFixture) by rw [HFT.out, List.flatMap_append]; simpa using hown)
        have G2 := Lib.hid ((G0.out.alloc _).grown hgrow (own_block_of HO1.out))
        clear hown hgrow
        go_wp2
        go_roundw
        case rel => exact ⟨k + 1, m + 1, by omega, by omega, by go_num, Lib.hid (by rw [HFT.out, List.length_append, HM.out]; rfl), HO2, G2⟩
        case measure => simp [intOf]; omega
      · have HFT := Lib.hid (show (L.take (k + 1)).filter (fun y => !nmP s y) = (L.take k).filter (fun y => !nmP s y) by rw [HFS.out, if_neg (by simp [hp]), List.append_nil])
        have hq : (x.Name.toList == s.toList) = true := hp
        clear hp
        go_wp2
        go_roundw
        case rel => exact ⟨k + 1, m, by omega, by omega, by go_num, Lib.hid (by rw [HFT.out]; exact HM.out), Lib.hid (by rw [HFT.out]; exact HO1.out), G0⟩
        case measure => simp [intOf]; omega
    · have hkn : k = n := by omega
      have HTK := Lib.hid (show L.take k = L from List.take_of_length_le (by rw [Hn.out]; omega))
      rw [HTK.out] at HM HO1
      rcases HO1.out.2 with ⟨hv, h0⟩ | ⟨g, cap, cur, hv, _⟩
      all_goals
        have hv2 := hv
        subst hv2
      · cases hany : L.any (nmP s)
        · have H := Lib.hid (show dropR L s = ([], 3) by rw [HF.out, if_pos hany])
          have hm0 : n = 0 := by
            have := HM.out
            rw [List.filter_eq_self.2 (by intro y hy; have := List.any_eq_false.1 hany y hy; simpa using this), Hn.out] at this
            omega
          clear hany hv
          go_wp2
          go_ret2
          exact res_nil H.out G0.out
        · have H := Lib.hid (show dropR L s = (L.filter (fun y => !nmP s y), 0) by rw [HF.out, if_neg (by rw [hany]; simp)])
          have hne : ¬ n = 0 := by
            intro h
            have h2 := Hn.out
            rw [h, List.length_eq_zero_iff] at h2
            rw [h2] at hany
            simp at hany
          clear hany hv
          go_wp2
          go_ret2
          exact res_own H.out HM.out HO1.out G0.out
      · cases hany : L.any (nmP s)
        · have H := Lib.hid (show dropR L s = ([], 3) by rw [HF.out, if_pos hany])
          have hm0 : m = n := by
            have := HM.out
            rw [List.filter_eq_self.2 (by intro y hy; have := List.any_eq_false.1 hany y hy; simpa using this), Hn.out] at this
            omega
          clear hany hv
          go_wp2
          go_ret2
          exact res_nil H.out G0.out
        · have H := Lib.hid (show dropR L s = (L.filter (fun y => !nmP s y), 0) by rw [HF.out, if_neg (by rw [hany]; simp)])
          have hne : ¬ m = n := by
            intro h
            have h2 := HM.out
            rw [h, ← Hn.out, List.length_filter_eq_length_iff] at h2
            obtain ⟨y, hy, hp⟩ := List.any_eq_true.1 hany
            have := h2 y hy
            rw [hp] at this
            cases this
          clear hany hv
          go_wp2
          go_ret2
          exact res_own H.out HM.out HO1.out G0.out
end Go.Proofs.Ythghcpgeddepnaa
