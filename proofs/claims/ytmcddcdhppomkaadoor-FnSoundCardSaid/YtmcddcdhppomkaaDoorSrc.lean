/-
  Walks: the source of choices that the laws draw from. Only what range each choice lies in.
-/
import Derived.Test.YtmcddcdhppomkaaDoorRes
import Derived.Test.YtmcddcdhppomkaaDoorBase
import Derived.Test.YtmcddcdhppomkaaDoorIns
import Derived.Deep.Onto
import Derived.Laws.BitsAllLaws
import Derived.WalkLawsBesides
import Derived.Deep.RegionHeld3
namespace Go.Proofs.YtmcddcdhppomkaaDoor
open Go.RowKit

/-- A byte: one cell. -/
def bv (n : Int) : List Value := [.int .u8 n]
theorem Rd.byte {w : World} {A : Option Addr} {L : List Int} (h : Rd w A 1 bv L) {k : Nat} (hk : k < L.length) :
    ∃ b o x, A = some ⟨b, o, none⟩ ∧ L[k]? = some x ∧ w.cell? ⟨b, o + k, none⟩ = some (.int .u8 x) := by
  obtain ⟨b, o, x, e, hx, hc⟩ := h.at_ hk
  exact ⟨b, o, x, e, hx, by simpa using hc 0 (.int .u8 x) rfl⟩
theorem Gx.grown {g : Option Nat} {a b c : World} {row : Option Nat} (h : Gx g a b) (hg : b.grownBy c row) (hr : ∀ k, row = some k → a.heap.size ≤ k) : Gx g a c :=
  ⟨hg.os.trans h.os, hg.tape.trans h.tape, hg.output.trans h.output, Nat.le_trans h.size hg.size, fun i hi hn =>
    (hg.block i (Nat.lt_of_lt_of_le hi h.size) (fun e => by have := hr i e.symm; omega)).trans (h.block i hi hn)⟩
/-- The bytes that came in. -/
structure Code (w : World) (A : Option Addr) (n : Nat) (L : List Int) : Prop where
  rd : Rd w A 1 bv L
  len : L.length = n
  lim : n ≤ 1048576
  wf : ∀ x ∈ L, 0 ≤ x ∧ x ≤ 255
theorem Code.g {w w' : World} {A : Option Addr} {n : Nat} {L : List Int} (h : Code w A n L) (g : G w w') : Code w' A n L := ⟨h.rd.G g, h.len, h.lim, h.wf⟩
theorem Code.gx {w w' : World} {A : Option Addr} {n : Nat} {L : List Int} (h : Code w A n L) {row : Option Nat} (g : Gx row w w') (hne : ∀ a, A = some a → L ≠ [] → some a.block ≠ row) : Code w' A n L := by
  refine ⟨?_, h.len, h.lim, h.wf⟩
  by_cases hl : L = []
  · rw [hl]; exact Rd.nil _ _ _ _
  · exact h.rd.Gx g (fun a ha => hne a ha hl)
/-- The source at block s: bytes that lie elsewhere, a place that is at most m. -/
structure Src (w : World) (s : Nat) (A : Option Addr) (n c : Nat) (L : List Int) (m : Nat) : Prop where
  code : Code w A n L
  far : ∀ a, A = some a → L ≠ [] → a.block < s
  lim : m ≤ 1000000
  own : ∃ x y : Int, 0 ≤ x ∧ x ≤ m ∧ w.ownsRow s 63 3 (.slice (some ⟨s, 0, none⟩) 1 1) 1 [.slice A n c, .int .i64 x, .int .u64 y]
section
variable {w w' : World} {s : Nat} {A : Option Addr} {n c : Nat} {L : List Int} {m : Nat}
theorem Src.g (h : Src w s A n c L m) (g : G w w') : Src w' s A n c L m :=
  ⟨h.code.g g, h.far, h.lim, by obtain ⟨x, y, h0, h1, ho⟩ := h.own; exact ⟨x, y, h0, h1, own_G ho g⟩⟩
theorem Src.grown (h : Src w s A n c L m) {row : Option Nat} (g : w.grownBy w' row) (hr : ∀ k, row = some k → s < k) : Src w' s A n c L m :=
  ⟨h.code.gx g (fun a ha hl e => by have h1 := h.far a ha hl; have h2 := hr _ e.symm; omega), h.far, h.lim, by
    obtain ⟨x, y, h0, h1, ho⟩ := h.own
    exact ⟨x, y, h0, h1, own_Gx (g := row) ho g (.inr (fun e => by have := hr s e.symm; omega))⟩⟩
theorem Src.up (h : Src w s A n c L m) {k : Nat} (hk : m ≤ k) (hl : k ≤ 1000000) : Src w s A n c L k :=
  ⟨h.code, h.far, hl, by obtain ⟨x, y, h0, h1, ho⟩ := h.own; exact ⟨x, y, h0, by omega, ho⟩⟩
end
/-- What a choice does: a number, the source further on, nothing else turned. -/
def Drawn (w : World) (s : Nat) (A : Option Addr) (n c : Nat) (L : List Int) (m : Nat) (p : Value → Prop) (e : Ending) (w' : World) : Prop :=
  ∃ v, p v ∧ e = .returned v ∧ Gx (some s) w w' ∧ Src w' s A n c L m
/-- A list drawn: its cells are the call's own, nothing else but the source has turned. -/
def DrawnL {α : Type} (w : World) (s : Nat) (A : Option Addr) (n c : Nat) (L : List Int) (m T sz : Nat) (f : α → List Value) (lim : Nat) (e : Ending) (w' : World) : Prop :=
  ∃ (v : Value) (M : List α), e = .returned v ∧ M.length ≤ lim ∧ Gx (some s) w w' ∧ Src w' s A n c L m ∧ w'.ownsRow w.heap.size T sz v M.length (M.flatMap f)

/-- A literal list of numbers. -/
theorem rd_lit (w : World) (M : List Int) (T : Nat) : Rd (w.alloc (.cells (M.map (Value.int .i64)).toArray T)) (some ⟨w.heap.size, 0, none⟩) 1 iv M := fun _ => by
  refine ⟨w.heap.size, 0, rfl, fun i x j u hi hj => ?_⟩
  match j, hj with
  | 0, hj =>
    simp only [iv, List.getElem?_cons_zero, Option.some.injEq] at hj
    subst hj
    rw [World.cell?_alloc_at _ _ _ _ rfl]
    simp [hi]
  | j + 1, hj => simp [iv] at hj
theorem Src.lt {w : World} {s : Nat} {A : Option Addr} {n c : Nat} {L : List Int} {m : Nat} (h : Src w s A n c L m) : s < w.heap.size := by
  obtain ⟨x, y, _, _, ho⟩ := h.own; exact (ho.lt s rfl).2
/-- A row that lies behind the source. -/
theorem own_src {w w' : World} {B T sz l : Nat} {v : Value} {xs : List Value} {s : Nat} (ho : w.ownsRow B T sz v l xs) (hs : s < B) (g : Gx (some s) w w') : w'.ownsRow B T sz v l xs := by
  refine own_Gx ho g ?_
  rcases hq : Value.ownBlock v with _ | y
  · exact .inl rfl
  · right; intro e; have := (ho.lt y hq).1; cases e; omega
theorem and255 {a : Int} (h0 : 0 ≤ a) (h1 : a < 18446744073709551616) : 0 ≤ bits .and .u64 a 255 ∧ bits .and .u64 a 255 ≤ 255 := by
  rw [u64_and a 255 h0 h1 (by decide) (by decide)]
  have := Nat.and_le_right (n := a.toNat) (m := 255)
  constructor
  · exact Int.natCast_nonneg _
  · show ((a.toNat &&& 255 : Nat) : Int) ≤ 255
    omega
theorem wrap_u64 (n : Int) : IntKind.u64.wrap n = n % 18446744073709551616 := by simp [IntKind.wrap, IntKind.bits, IntKind.signed]
def seed (y z : Int) : Int := IntKind.u64.wrap (IntKind.u64.wrap (IntKind.u64.wrap (y * 6364136223846793005) + z) + 1442695040888963407)
theorem seed_bd (y z : Int) : 0 ≤ seed y z ∧ seed y z < 18446744073709551616 := by
  unfold seed
  rw [wrap_u64 (_ + _)]
  omega
def seed0 (y : Int) : Int := IntKind.u64.wrap (IntKind.u64.wrap (IntKind.u64.wrap (y * 6364136223846793005)) + 1442695040888963407)
theorem seed0_bd (y : Int) : 0 ≤ seed0 y ∧ seed0 y < 18446744073709551616 := by
  unfold seed0
  rw [wrap_u64 (_ + _)]
  omega
set_option maxHeartbeats 1000000 in
theorem next_any (w : World) (s : Nat) (A : Option Addr) (n c : Nat) (L : List Int) (m : Nat) (h : Src w s A n c L m) (hm : m + 1 ≤ 1000000) :
    Calls Tryd.prog 39 #[.pointer (some ⟨s, 0, none⟩)] w (Drawn w s A n c L (m + 1) fun v => ∃ x : Int, 0 ≤ x ∧ x ≤ 255 ∧ v = .int .i64 x) := by
  obtain ⟨x, y, h0, h1, ho⟩ := h.own
  have hlim := h.code.lim
  have H := Lib.hid h
  have HO := Lib.hid ho
  have hc0 := own_cellAt_mid ho (j := 0) rfl
  have hc1 := own_cellAt_mid ho (j := 1) rfl
  clear h ho
  obtain ⟨k, rfl⟩ : ∃ k : Nat, x = k := ⟨x.toNat, by omega⟩
  have gc0 := cellR hc0
  have gc1 := cellR hc1
  clear hc0 hc1
  by_cases hlt : k < n
  · obtain ⟨b, o, z, rfl, hx, hcz⟩ := H.out.code.rd.byte (k := k) (by rw [H.out.code.len]; exact hlt)
    have hz := H.out.code.wf z (List.mem_of_getElem? hx)
    have HCZ := Lib.hid hcz
    have hd : decide ((k : Int) < (n : Int)) = true := by simp; omega
    have hb1 : (k : Int) < (n : Int) := by omega
    have hb0 : 0 ≤ (k : Int) := by omega
    have HE := Lib.hid (show seed y z = IntKind.u64.wrap (IntKind.u64.wrap (IntKind.u64.wrap (y * 6364136223846793005) + z) + 1442695040888963407) from rfl)
    clear hx hcz
    go_enter Tryd.func39, Tryd.ntmps39
    go_wp2
    refine region_quiet_G (by kernel_rfl) (by kernel_rfl) ?_; (repeat (go_big_quiet_step ((fail)))); refine wpQuiet_nil ?_
    intro w1 g1
    have O1 := Lib.hid (own_G HO.out g1)
    have gc0 := cellR (own_cellAt_mid O1.out (j := 0) rfl)
    have gc1 := cellR (own_cellAt_mid O1.out (j := 1) rfl)
    have gcz := cellR (g1.cell HCZ.out)
    have G1 := Lib.hid g1
    clear g1
    go_wp2
    refine region_quiet_G (by kernel_rfl) (by kernel_rfl) ?_; (repeat (go_big_quiet_step ((fail)))); refine wpQuiet_nil ?_
    intro w2 g2
    have O2 := Lib.hid (own_G O1.out g2)
    have G2 := Lib.hid (G1.out.trans g2)
    clear g2 gc0 gc1 gcz hd
    have hc0 := own_cellAt_mid O2.out (j := 0) rfl
    have hc1 := own_cellAt_mid O2.out (j := 1) rfl
    have hc2 := own_cellAt_mid O2.out (j := 2) rfl
    have hy1 := own_frozen_of O2.out 1
    have hy2 := own_frozen_of O2.out 2
    go_wp2
    rw [← HE.out]
    obtain ⟨E, HEE⟩ : ∃ E, Hid (seed y z = E) := ⟨_, rfl⟩
    rw [HEE.out]
    have S1 := Lib.hid (O2.out.stored 1 (.int .i64 ((k : Int) + 1)))
    have S2 := Lib.hid (S1.out.1.stored 2 (.int .u64 E))
    have GX := Lib.hid (Gx.trans (Gx.of_G G2.out (some s)) (Gx.trans S1.out.2 S2.out.2))
    have gc0 := cellR (own_cellAt_mid S2.out.1 (j := 0) rfl)
    have gc1 := cellR (own_cellAt_mid S2.out.1 (j := 1) rfl)
    have hd : decide ((k : Int) + 1 ≤ (n : Int)) = true := by simp; omega
    clear hc0 hc1 hc2 hy1 hy2
    refine region_quiet_G (by kernel_rfl) (by kernel_rfl) ?_; (repeat (go_big_quiet_step ((fail)))); refine wpQuiet_nil ?_
    intro w3 g3
    have GF := Lib.hid (Gx.trans GX.out (Gx.of_G g3 (some s)))
    have OF := Lib.hid (own_G S2.out.1 g3)
    clear g3 gc0 gc1 hd
    go_wp2
    go_ret
    exact ⟨_, ⟨z, hz.1, hz.2, rfl⟩, rfl, GF.out, ⟨H.out.code.gx GF.out (fun a ha hl e => by have h1 := H.out.far a ha hl; cases e; omega), H.out.far, hm, (k : Int) + 1, E, by omega, by omega, OF.out⟩⟩
  · have hd : decide ((k : Int) < (n : Int)) = false := by simp; omega
    have hb1 : (n : Int) ≤ (k : Int) := by omega
    have hb0 : 0 ≤ (k : Int) := by omega
    have HE := Lib.hid (show seed0 y = IntKind.u64.wrap (IntKind.u64.wrap (IntKind.u64.wrap (y * 6364136223846793005)) + 1442695040888963407) from rfl)
    go_enter Tryd.func39, Tryd.ntmps39
    go_wp2
    refine region_quiet_G (by kernel_rfl) (by kernel_rfl) ?_; (repeat (go_big_quiet_step ((fail)))); refine wpQuiet_nil ?_
    intro w2 g2
    have O2 := Lib.hid (own_G HO.out g2)
    have G2 := Lib.hid g2
    clear g2 gc0 gc1 hd
    have hc0 := own_cellAt_mid O2.out (j := 0) rfl
    have hc1 := own_cellAt_mid O2.out (j := 1) rfl
    have hc2 := own_cellAt_mid O2.out (j := 2) rfl
    have hy1 := own_frozen_of O2.out 1
    have hy2 := own_frozen_of O2.out 2
    go_wp2
    rw [← HE.out]
    have hE := seed0_bd y
    obtain ⟨E, HEE⟩ : ∃ E, Hid (seed0 y = E) := ⟨_, rfl⟩
    rw [HEE.out] at hE ⊢
    have S1 := Lib.hid (O2.out.stored 1 (.int .i64 ((k : Int) + 1)))
    have S2 := Lib.hid (S1.out.1.stored 2 (.int .u64 E))
    have GX := Lib.hid (Gx.trans (Gx.of_G G2.out (some s)) (Gx.trans S1.out.2 S2.out.2))
    have gc0 := cellR (own_cellAt_mid S2.out.1 (j := 0) rfl)
    have gc1 := cellR (own_cellAt_mid S2.out.1 (j := 1) rfl)
    have hd : decide ((k : Int) + 1 ≤ (n : Int)) = false := by simp; omega
    clear hc0 hc1 hc2 hy1 hy2
    refine region_quiet_G (by kernel_rfl) (by kernel_rfl) ?_; (repeat (go_big_quiet_step ((fail)))); refine wpQuiet_nil ?_
    intro w3 g3
    have GF := Lib.hid (Gx.trans GX.out (Gx.of_G g3 (some s)))
    have OF := Lib.hid (own_G S2.out.1 g3)
    have hc2 := own_cellAt_mid OF.out (j := 2) rfl
    clear g3 gc0 gc1 hd
    go_wp2
    obtain ⟨q, HQ⟩ : ∃ q, Hid (bits .and .u64 (E / 1099511627776) 255 = q) := ⟨_, rfl⟩
    have hq : 0 ≤ q ∧ q ≤ 255 := by rw [← HQ.out]; exact and255 (by omega) (by omega)
    rw [HQ.out, IntWalk.wrap64_in q ⟨by omega, by omega⟩]
    go_ret
    exact ⟨_, ⟨q, hq.1, hq.2, rfl⟩, rfl, GF.out, ⟨H.out.code.gx GF.out (fun a ha hl e => by have h1 := H.out.far a ha hl; cases e; omega), H.out.far, hm, (k : Int) + 1, E, by omega, by omega, OF.out⟩⟩
/-- A number below n. -/
def Below0 (n : Int) (v : Value) : Prop := ∃ x : Int, 0 ≤ x ∧ (x < n ∨ x = 0) ∧ v = .int .i64 x
section
variable {w : World} {s : Nat} {A : Option Addr} {n c : Nat} {L : List Int} {m : Nat}
set_option maxHeartbeats 1000000 in
theorem pick_any (k : Int) (w : World) (s : Nat) (A : Option Addr) (n c : Nat) (L : List Int) (m : Nat) (h : Src w s A n c L m) (hm : m + 2 ≤ 1000000) (hk : k ≤ 9223372036854775807) :
    Calls Tryd.prog 20 #[.pointer (some ⟨s, 0, none⟩), .int .i64 k] w (Drawn w s A n c L (m + 2) (Below0 k)) := by
  have H := Lib.hid h
  clear h
  by_cases h1 : k ≤ 1
  · go_enter Tryd.func20, Tryd.ntmps20
    go_wp2
    go_ret
    exact ⟨_, ⟨0, Int.le_refl _, .inr rfl, rfl⟩, rfl, Gx.of_G (G.refl _) _, H.out.up (by omega) hm⟩
  by_cases h2 : k ≤ 200
  · go_enter Tryd.func20, Tryd.ntmps20
    go_wp2_with fail
    refine (next_any _ s A n c L m H.out (by omega)).mono ?_
    rintro e w1 ⟨v, ⟨x, hx0, hx1, rfl⟩, rfl, g1, h1'⟩
    have G1 := Lib.hid g1
    have H1 := Lib.hid h1'
    clear g1 h1'
    dsimp only
    go_wp2
    go_ret
    exact ⟨_, ⟨x % k, Int.emod_nonneg _ (by omega), .inl (Int.emod_lt_of_pos _ (by omega)), rfl⟩, rfl, G1.out, H1.out.up (by omega) hm⟩
  · go_enter Tryd.func20, Tryd.ntmps20
    go_wp2_with fail
    refine (next_any _ s A n c L m H.out (by omega)).mono ?_
    rintro e w1 ⟨v, ⟨x, hx0, hx1, rfl⟩, rfl, g1, h1'⟩
    have G1 := Lib.hid g1
    have H1 := Lib.hid h1'
    clear g1 h1'
    dsimp only
    go_wp2_with fail
    refine (next_any _ s A n c L (m + 1) H1.out (by omega)).mono ?_
    rintro e w2 ⟨v, ⟨y, hy0, hy1, rfl⟩, rfl, g2, h2'⟩
    have G2 := Lib.hid (Gx.trans G1.out g2)
    have H2 := Lib.hid h2'
    clear g2 h2'
    dsimp only
    go_wp2
    go_ret
    exact ⟨_, ⟨(x * 256 + y) % k, Int.emod_nonneg _ (by omega), .inl (Int.emod_lt_of_pos _ (by omega)), rfl⟩, rfl, G2.out, H2.out⟩
end
set_option maxHeartbeats 1000000 in
theorem l00From_any (A : Option Addr) (n c : Nat) (L : List Int) (w : World) (h : Code w A n L) (hA : ∀ a, A = some a → L ≠ [] → a.block < w.heap.size) :
    Calls Tryd.prog 19 #[.slice A n c] w fun e w' => e = .returned (.pointer (some ⟨w.heap.size, 0, none⟩)) ∧ G w w' ∧ w.heap.size < w'.heap.size ∧ Src w' w.heap.size A n c L 0 := by
  have H := Lib.hid h
  have HA := Lib.hid hA
  clear h hA
  go_enter Tryd.func19, Tryd.ntmps19
  go_wp2
  go_ret
  exact ⟨rfl, (G.refl _).alloc _, by simp, ⟨H.out.g ((G.refl _).alloc _), HA.out, by omega, 0, 0, by omega, by omega, own_new (w := w) (base := w.heap.size) (n := 1) (cap := 1) (size := 3) (e := 63) (cur := #[.slice A n c, .int .i64 0, .int .u64 0]) (Nat.le_refl _) (by decide) (by decide) rfl⟩⟩
/-- Bytes that came in. -/
theorem code_of_isRow {w : World} {a : Option Addr} {len cap : Nat} {zs : List Int} (h : IsRow .u8 w a len cap zs) (hl : len ≤ 1048576) : Code w a len (zs.take len) ∧ ∀ x, a = some x → zs.take len ≠ [] → x.block < w.heap.size := by
  rcases h with ⟨rfl, rfl, rfl, rfl⟩ | ⟨x, rfl, hlc, hm, hz, hc, hw⟩
  · exact ⟨⟨Rd.nil _ _ _ _, rfl, by omega, fun x hx => by simp at hx⟩, fun x hx => by cases hx⟩
  · have hne : zs.take len ≠ [] → 0 < zs.length := fun hn => by
      cases zs with
      | nil => simp at hn
      | cons => simp
    refine ⟨⟨fun hn => ?_, by rw [List.length_take, hz]; omega, hl, fun y hy => ?_⟩, fun y hy hn => ?_⟩
    · obtain ⟨b, o, spot⟩ := x
      have h0 := hc 0 (hne hn)
      have hspot : spot = none := by simpa [Addr.add] using World.cell?_spot h0
      subst hspot
      refine ⟨b, o, rfl, fun i y j u hi hj => ?_⟩
      have hil := (List.getElem?_eq_some_iff.1 hi).1
      simp only [List.length_take] at hil
      have := hc i (by omega)
      rw [Addr.add_mid] at this
      match j, hj with
      | 0, hj =>
        simp only [bv, List.getElem?_cons_zero, Option.some.injEq] at hj
        subst hj
        rw [List.getElem?_take, if_pos (by omega)] at hi
        simp only [Nat.mul_one, Nat.add_zero]
        rw [this, List.getD_eq_getElem?_getD, hi]
        rfl
      | j + 1, hj => simp [bv] at hj
    · have := hw y (List.mem_of_mem_take hy)
      simp [Lit.wf, IntKind.min, IntKind.max, IntKind.bits, IntKind.signed] at this
      omega
    · cases hy
      have h0 := hc 0 (hne hn)
      have := block_lt_of_cell h0
      simpa [Addr.add] using this
end Go.Proofs.YtmcddcdhppomkaaDoor
