/-
  Walks: DropFixture, by both texts.
-/
import Derived.Test.YtckenipmebeopaaDeleteFixture
import Derived.Test.YtckenipmebeopaaFreeAddress
import Derived.Test.YtckenipmebeopaaIntsG
namespace Go.Proofs.Ytckenipmebeopaa
open Go.RowKit

theorem bl_trans : ∀ a b c : List UInt8, Op.bytesLess a b = true → Op.bytesLess b c = true → Op.bytesLess a c = true
  | [], [], _, h, _ => by simp [Op.bytesLess] at h
  | _ :: _, [], _, h, _ => by simp [Op.bytesLess] at h
  | _, _ :: _, [], _, h => by simp [Op.bytesLess] at h
  | [], _ :: _, _ :: _, _, _ => by simp [Op.bytesLess]
  | a :: x, b :: y, c :: z, h, k => by
    simp only [Op.bytesLess, Bool.or_eq_true, Bool.and_eq_true, decide_eq_true_eq, beq_iff_eq] at h k ⊢
    rcases h with h | ⟨rfl, h⟩ <;> rcases k with k | ⟨rfl, k⟩
    · exact .inl (UInt8.lt_trans h k)
    · exact .inl h
    · exact .inl k
    · exact .inr ⟨rfl, bl_trans x y z h k⟩
theorem bl_irrefl : ∀ a : List UInt8, Op.bytesLess a a = false
  | [] => rfl
  | a :: x => by simp [Op.bytesLess, bl_irrefl x]
theorem chk_far {α : Type} {p : α → Bool} {r : α → α → Bool} (ht : ∀ a b c, r a b = true → r b c = true → r a c = true) {L : List α} (h : chk p r L = true) {i : Nat} {x : α} (hx : L[i]? = some x) : ∀ (d : Nat) (y : α), L[i + d + 1]? = some y → r x y = true := by
  intro d
  induction d with
  | zero => intro y hy; exact chk_rel h hy hx
  | succ d ih =>
    intro y hy
    have hlt := (List.getElem?_eq_some_iff.1 hy).1
    have hz : L[i + d + 1]? = some (L[i + d + 1]'(by omega)) := List.getElem?_eq_getElem (by omega)
    exact ht _ _ _ (ih _ hz) (chk_rel h (by rw [show i + d + 1 + 1 = i + (d + 1) + 1 by omega]; exact hy) hz)
theorem own_low' {w : World} {base base' : Nat} {e : TypeId} {size n : Nat} {v : Value} {xs : List Value} (h : w.ownsRow base e size v n xs) (hb : base' ≤ base) : w.ownsRow base' e size v n xs := by
  refine ⟨h.1, h.2.imp id ?_⟩
  rintro ⟨g, cap, cur, hv, hbg, rest⟩
  exact ⟨g, cap, cur, hv, Nat.le_trans hb hbg, rest⟩
def nmP (s : ByteArray) (x : SFixture) : Bool := x.Name.toList == s.toList
theorem vfs_lt {L : List SFixture} (h : vfs L = true) {i j : Nat} {x y : SFixture} (hx : L[i]? = some x) (hy : L[j]? = some y) (hij : i < j) : ltF x y = true := by
  obtain ⟨d, rfl⟩ : ∃ d, j = i + d + 1 := ⟨j - i - 1, by omega⟩
  exact chk_far (p := vfB) (r := ltF) (fun a b c (h1 : ltF a b = true) h2 => (show ltF a c = true from bl_trans _ _ _ h1 h2)) (vfs_chk h) hx d y hy
theorem vfs_name {L : List SFixture} (h : vfs L = true) {s : ByteArray} {i j : Nat} {x y : SFixture} (hx : L[i]? = some x) (hy : L[j]? = some y) (px : nmP s x = true) (py : nmP s y = true) : i = j := by
  simp only [nmP, beq_iff_eq] at px py
  rcases Nat.lt_trichotomy i j with hij | hij | hij
  · have := vfs_lt h hx hy hij
    unfold ltF ltS at this
    rw [px, py, bl_irrefl] at this; cases this
  · exact hij
  · have := vfs_lt h hy hx hij
    unfold ltF ltS at this
    rw [px, py, bl_irrefl] at this; cases this
theorem filter_erase {α : Type} {p : α → Bool} {L : List α} {k : Nat} {x : α} (hx : L[k]? = some x) (px : p x = true) (ho : ∀ j y, L[j]? = some y → p y = true → j = k) : L.eraseIdx k = L.filter (fun y => !p y) := by
  obtain ⟨hk, rfl⟩ := List.getElem?_eq_some_iff.1 hx
  rw [List.eraseIdx_eq_take_drop_succ]
  conv => rhs; rw [← List.take_append_drop k L, List.drop_eq_getElem_cons hk, List.filter_append, List.filter_cons]
  rw [if_neg (by rw [px]; simp)]
  congr 1
  · rw [List.filter_eq_self.2]
    intro y hy
    obtain ⟨j, hj⟩ := List.mem_iff_getElem?.1 hy
    rw [List.getElem?_take] at hj
    split at hj
    · cases hp : p y
      · rfl
      · have := ho j y hj hp; omega
    · cases hj
  · rw [List.filter_eq_self.2]
    intro y hy
    obtain ⟨j, hj⟩ := List.mem_iff_getElem?.1 hy
    rw [List.getElem?_drop] at hj
    cases hp : p y
    · rfl
    · have := ho _ y hj hp; omega
def dropR (L : List SFixture) (s : ByteArray) : List SFixture × Int := if vfs L = false then ([], 1) else if L.any (nmP s) = false then ([], 3) else (L.filter (fun y => !nmP s y), 0)
theorem dropR_len (L : List SFixture) (s : ByteArray) : (dropR L s).1.length ≤ 512 := by
  unfold dropR
  split
  · simp
  · rename_i h
    split
    · simp
    · have h1 := vfs_len (L := L) (by simpa using h)
      have h2 := List.length_filter_le (fun y => !nmP s y) L
      simp only
      omega

set_option maxHeartbeats 1000000 in
theorem dropClosure_any (s : ByteArray) (x : SFixture) (b : Nat) (w : World) (hc : w.cell? ⟨b, 0, none⟩ = some (.string s)) :
    Calls Try.prog 39 #[.agg #[.string x.Name, .int .i64 x.Universe, .int .i64 x.Address, .int .i64 x.Width], .pointer (some ⟨b, 0, none⟩)] w fun e w' => e = .returned (.bool (nmP s x)) ∧ G w w' := by
  have d0 := ((G.refl w).alloc (.cells #[.string x.Name, .int .i64 x.Universe, .int .i64 x.Address, .int .i64 x.Width] 34)).cell hc
  clear hc
  go_enter Try.func39, Try.ntmps39
  go_wp2
  go_ret
  exact ⟨rfl, (G.refl _).alloc _⟩

set_option maxRecDepth 20000 in
set_option maxHeartbeats 2000000 in
theorem dropIx_any (s : ByteArray) (b : Nat) (A : Option Addr) (n c : Nat) (L : List SFixture) (w : World) (hr : Rd w A 4 cFixture L) (hn : L.length = n) (hb : n ≤ 4194304) (hc0 : w.cell? ⟨b, 0, none⟩ = some (.string s)) :
    Calls Try.prog 38 #[.slice A n c, .func (.func 39) #[] #[.pointer (some ⟨b, 0, none⟩)]] w fun e w' => e = .returned (.int .i64 (idxOf (nmP s) L)) ∧ G w w' := by
  have Hn := Lib.hid hn
  have HR := Lib.hid hr
  clear hr hn
  have C0 := Lib.hid hc0
  clear hc0
  go_enter Try.func38, Try.ntmps38
  go_wp2
  go_loopw [8] (fun i wr => ∃ k : Nat, k ≤ n ∧ i = .int .i64 k ∧ (L.take k).all (fun y => !(nmP s) y) = true ∧ G w wr) (fun i _ => n - (intOf i).toNat)
  case atStart => exact ⟨0, Nat.zero_le _, rfl, by simp, G.refl _⟩
  case round =>
    obtain ⟨k, hk, rfl, ha, hg⟩ := hrel
    have HA := Lib.hid ha
    have G0 := Lib.hid hg
    clear ha hg
    by_cases hlt : k < n
    · obtain ⟨b1, o, x, rfl, hx, hc0, hc1, hc2, hc3⟩ := (HR.out.G G0.out).Fixture (k := k) (by rw [Hn.out]; exact hlt)
      have HX := Lib.hid hx
      have K := Lib.hid (dropClosure_any s x b wr (G0.out.cell C0.out))
      clear hx
      cases hv : (nmP s) x
      · rw [hv] at K
        have H := Lib.hid (all_snoc (p := fun y => !(nmP s) y) HX.out HA.out (by simp [hv]))
        clear hv
        go_wp2_with (go_at_call 39; refine K.out.mono ?_; rintro e w1 ⟨rfl, g1⟩; have G1 := Lib.hid (G0.out.trans g1); clear g1)
        go_roundw
        case rel => exact ⟨k + 1, by omega, by go_num, H.out, G1.out⟩
        case measure => simp [intOf]; omega
      · rw [hv] at K
        have H := Lib.hid (idxOf_hit HX.out HA.out hv)
        clear hv
        go_wp2_with (go_at_call 39; refine K.out.mono ?_; rintro e w1 ⟨rfl, g1⟩; have G1 := Lib.hid (G0.out.trans g1); clear g1)
        go_ret
        exact ⟨ret_int H.out.symm, G1.out⟩
    · have H := Lib.hid (idxOf_none (p := (nmP s)) (all_take_all (by rw [Hn.out]; omega) HA.out))
      go_wp2
      go_ret
      exact ⟨ret_int H.out.symm, G0.out⟩

set_option maxRecDepth 20000 in
set_option maxHeartbeats 2000000 in
theorem iDropFixture_any (A : Option Addr) (n c : Nat) (L : List SFixture) (s : ByteArray) (w : World) (hr : Rd w A 4 cFixture L) (hn : L.length = n) (hb : n ≤ 4194304) (hcap : n ≤ c) (hwf : ∀ x ∈ L, WfFixture x) (_hs : s.size ≤ maxLen) :
    Calls Try.prog 14 #[.slice A n c, .string s] w (Res w 34 4 cFixture (dropR L s)) := by
  have K := Lib.hid (ValidFixtures_any A n c L (w.alloc (.cells #[.string s] 9)) (hr.G ((G.refl w).alloc _)) hn hb hcap hwf)
  have C0 := Lib.hid (show (w.alloc (.cells #[.string s] 9)).cell? ⟨w.heap.size, 0, none⟩ = some (.string s) from World.cell?_alloc_at _ _ _ _ rfl)
  have Hn := Lib.hid hn
  have HR := Lib.hid hr
  clear hr hn hwf
  cases hv : vfs L
  · have H := Lib.hid (show dropR L s = ([], 1) by unfold dropR; rw [if_pos hv])
    rw [hv] at K
    clear hv
    go_enter Try.func14, Try.ntmps14
    go_wp2_with (go_at_call 25; refine K.out.mono ?_; rintro e w1 ⟨rfl, g1⟩; have G1 := Lib.hid (((G.refl w).alloc _).trans g1); have c0 := g1.cell C0.out; clear g1)
    go_ret2
    exact res_nil H.out G1.out
  rw [hv] at K
  have HV := Lib.hid hv
  have HF := Lib.hid (show dropR L s = if L.any (nmP s) = false then ([], 3) else (L.filter (fun y => !nmP s y), 0) by unfold dropR; rw [if_neg (by rw [hv]; simp)])
  clear hv
  have KI := Lib.hid (fun (w1 : World) (g : G w w1) (hc : w1.cell? ⟨w.heap.size, 0, none⟩ = some (.string s)) => dropIx_any s w.heap.size A n c L w1 (HR.out.G g) Hn.out hb hc)
  rcases idxOf_cases (nmP s) L with ⟨hi, hany⟩ | ⟨j, y, hi, hy, hp, hany⟩
  · rw [hi] at KI
    have H := Lib.hid (show dropR L s = ([], 3) by rw [HF.out, if_pos hany])
    clear hi hany
    go_enter Try.func14, Try.ntmps14
    go_wp2_with (first | (go_at_call 25; refine K.out.mono ?_; rintro e w1 ⟨rfl, g1⟩; have G1 := Lib.hid (((G.refl w).alloc _).trans g1); have c0 := g1.cell C0.out; clear g1) | (go_at_call 38; refine (KI.out _ G1.out c0).mono ?_; rintro e w2 ⟨rfl, g2⟩; have G2 := Lib.hid (G1.out.trans g2); clear g2))
    go_ret2
    exact res_nil H.out G2.out
  · rw [hi] at KI
    have hjn : j < n := by rw [← Hn.out]; exact (List.getElem?_eq_some_iff.1 hy).1
    have H := Lib.hid (show dropR L s = (L.eraseIdx j, 0) by rw [HF.out, if_neg (by rw [hany]; simp), filter_erase hy hp (fun i z hz pz => vfs_name HV.out hz hy pz hp)])
    have HLE := Lib.hid (show (L.eraseIdx j).length = n - 1 by rw [List.length_eraseIdx, Hn.out, if_pos hjn])
    clear hi hany hy hp
    go_enter Try.func14, Try.ntmps14
    go_wp2_with (first | (go_at_call 25; refine K.out.mono ?_; rintro e w1 ⟨rfl, g1⟩; have G1 := Lib.hid (((G.refl w).alloc _).trans g1); have c0 := g1.cell C0.out; clear g1) | (go_at_call 38; refine (KI.out _ G1.out c0).mono ?_; rintro e w2 ⟨rfl, g2⟩; have G2 := Lib.hid (G1.out.trans g2); clear g2 c0) | (go_at_call 37; refine (cloneFixture_any A n c L _ (HR.out.G G2.out) Hn.out hb).mono ?_; rintro e w3 ⟨v3, rfl, o3, g3⟩; have G3 := Lib.hid (G2.out.trans g3); have s2 := G2.out.size; have O3 := Lib.hid o3; clear g3 o3))
    rw [Hn.out] at O3
    rcases O3.out.2 with ⟨_, h0⟩ | ⟨g, cap, cur, hv, _⟩
    · omega
    subst hv
    go_wp2_with (go_at_call 40; refine (deleteFixture_any w2.heap.size g n cap j L _ O3.out Hn.out hb hjn).mono ?_; rintro e w4 ⟨rfl, o4, g4⟩; have G4 := Lib.hid (Gx.G G3.out g4 (by intro k hk; cases hk; have := (O3.out.lt _ rfl).1; omega)); have O4 := Lib.hid o4; clear g4 o4)
    go_ret2
    exact res_own H.out HLE.out (own_low' O4.out s2) G4.out

theorem filter_snoc {p : SFixture → Bool} {L : List SFixture} {k : Nat} {x : SFixture} (hx : L[k]? = some x) : (L.take (k + 1)).filter p = (L.take k).filter p ++ (if p x = true then [x] else []) := by
  rw [take_snoc hx, List.filter_append, List.filter_cons]
  split <;> simp

end Go.Proofs.Ytckenipmebeopaa
