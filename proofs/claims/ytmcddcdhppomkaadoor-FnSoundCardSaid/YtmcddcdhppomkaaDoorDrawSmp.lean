/-
  Walks: samples drawn from bytes; equal lists; a nearest quotient (what the law FnSound wants).
-/
import Derived.Test.YtmcddcdhppomkaaDoorSrc
import Derived.Test.YtmcddcdhppomkaaDoorInts
import Derived.Test.YtmcddcdhppomkaaDoorNear
import Derived.Test.YtmcddcdhppomkaaDoorGain
namespace Go.Proofs.YtmcddcdhppomkaaDoor
open Go.RowKit

set_option maxHeartbeats 4000000 in
theorem r8Same_any (A B : Option Addr) (n c d : Nat) (L : List Int) (w : World) (h1 : Rd w A 1 iv L) (h2 : Rd w B 1 iv L) (hn : L.length = n) (hb : n ≤ 4194304) :
    Calls Tryd.prog 10 #[.slice A n c, .slice B n d] w fun e w' => e = .returned (.bool true) ∧ G w w' := by
  have Hn := Lib.hid hn
  have H1 := Lib.hid h1
  have H2 := Lib.hid h2
  clear hn h1 h2
  go_enter Tryd.func10, Tryd.ntmps10
  go_wp2
  go_loopw [5] (fun i wr => ∃ (k m : Nat), k ≤ n ∧ i = .int .i64 k ∧ wr = w.drewN m) (fun i _ => n - (intOf i).toNat)
  case atStart => exact ⟨0, 0, Nat.zero_le _, rfl, rfl⟩
  case round =>
    obtain ⟨k, m, hk, rfl, rfl⟩ := hrel
    by_cases hlt : k < n
    · obtain ⟨b, o, x, rfl, hx, hc⟩ := H1.out.int (k := k) (by rw [Hn.out]; exact hlt)
      obtain ⟨b2, o2, x2, rfl, hx2, hc2⟩ := H2.out.int (k := k) (by rw [Hn.out]; exact hlt)
      obtain rfl : x = x2 := Option.some.inj (hx.symm.trans hx2)
      clear hx hx2
      have hlt2 : (k : Int) < (n : Int) := by omega
      have hk0 : 0 ≤ (k : Int) := by omega
      go_wp2
      go_quiet (fail)
      go_wp2
      go_roundw
      case rel => exact ⟨k + 1, _, by omega, by go_num, rfl⟩
      case measure => simp [intOf]; omega
    · go_wp2
      go_ret
      exact ⟨rfl, (G.refl w).drewN _⟩
set_option maxHeartbeats 4000000 in
theorem sDivRound_any (a : Int) (h0 : 0 ≤ a) (h1 : a ≤ 1000000000000) (w : World) :
    Calls Tryd.prog 12 #[.int .i64 a, .int .i64 1000000] w fun e w' => e = .returned (.int .i64 (near a 1000000)) ∧ w = w' := by
  have K := Lib.hid (l01Div_any a 1000000 (by omega) (by omega) (by omega) (by omega) w)
  have hin : inB a (-1000000000000) 1000000000000 = true := inB_mk ⟨by omega, by omega⟩
  have hin2 : inB 1000000 (-1000000000000) 1000000000000 = true := by decide
  have K1 := Lib.hid (fun (n : Int) (W : World) => l00In_any n (-1000000000000) 1000000000000 W)
  go_enter Tryd.func12, Tryd.ntmps12
  go_wp2_with (first | (go_at_call 30; (with_reducible refine (K1.out _ _).mono ?_); rintro e w' ⟨rfl, rfl⟩; first | rw [hin] | rw [hin2]) | (go_at_call 31; (with_reducible refine K.out.mono ?_); rintro e w' ⟨rfl, rfl⟩))
  go_ret
  exact ⟨rfl, rfl⟩
theorem own_some3 {w : World} {B T sz n c : Nat} {A : Option Addr} {xs : List Value} (h : w.ownsRow B T sz (.slice A n c) n xs) (hn : 0 < n) : ∃ b, A = some ⟨b, 0, none⟩ := by
  rcases h.2 with ⟨_, h0⟩ | ⟨g, cap, cur, e, _⟩
  · omega
  · simp only [Value.slice.injEq] at e
    exact ⟨g, e.1⟩
theorem own_val3 {w : World} {B T sz n : Nat} {v : Value} {xs : List Value} (h : w.ownsRow B T sz v n xs) : ∃ A c, v = .slice A n c := by
  rcases h.2 with ⟨hv, hn⟩ | ⟨g, cap, cur, hv, _⟩
  · exact ⟨none, 0, by rw [hv, hn]⟩
  · exact ⟨_, _, hv⟩
set_option maxRecDepth 20000 in
set_option maxHeartbeats 8000000 in
theorem R8Samples_any (A : Option Addr) (n c : Nat) (L : List Int) (w : World) (h : Code w A n L) (hA : ∀ a, A = some a → L ≠ [] → a.block < w.heap.size) :
    Calls Tryd.prog 5 #[.slice A n c] w fun e w' => ∃ (b cb : Nat) (M : List Int), e = .returned (.slice (some ⟨b, 0, none⟩) M.length cb) ∧ M.length ≤ 9 ∧ (∀ x ∈ M, -30000 ≤ x ∧ x ≤ 30000) ∧ G w w' ∧ w'.ownsRow w.heap.size 2 1 (.slice (some ⟨b, 0, none⟩) M.length cb) M.length (M.flatMap iv) := by
  obtain ⟨i0, hi, hz0, hz1, hz2⟩ := info_parts infoInt
  have HI := Lib.hid (And.intro hi (And.intro hz0 (And.intro hz1 hz2)))
  clear hi hz0 hz1 hz2
  have K := Lib.hid (l00From_any A n c L w h hA)
  clear h hA
  go_enter Tryd.func5, Tryd.ntmps5
  go_wp2_with fail
  refine K.out.mono ?_
  rintro e w1 ⟨rfl, g1, hs1, h1⟩
  have G1 := Lib.hid g1
  have OE := Lib.hid (World.ownsRow_lit (e := 2) (base := w1.heap.size) (size := 1) w1 #[] 0 (Nat.le_refl _) (by unfold maxLen; omega) rfl)
  have X0 := Lib.hid (Gx.of_G ((G.refl w1).alloc (.cells #[] 2)) (some w.heap.size))
  have H0 := Lib.hid (h1.g ((G.refl w1).alloc (.cells #[] 2)))
  clear g1 h1 K
  dsimp only
  obtain ⟨s, HS⟩ : ∃ s, Hid (w.heap.size = s) := ⟨_, rfl⟩
  have hsw : w.heap.size ≤ s := by rw [← HS.out]; exact Nat.le_refl _
  rw [HS.out] at X0 H0 hs1 ⊢
  go_wp2_with fail
  refine (pick_any 10 _ s A n c L 0 H0.out (by omega) (by omega)).mono ?_
  rintro e w2 ⟨v2, ⟨x, hx0, hx1, rfl⟩, rfl, g2, h2⟩
  obtain ⟨x, rfl⟩ : ∃ k : Nat, x = k := ⟨x.toNat, by omega⟩
  have hx9 : x ≤ 9 := by omega
  have X2 := Lib.hid (Gx.trans X0.out g2)
  have O2 := Lib.hid (own_src OE.out (by omega) g2)
  have H2 := Lib.hid h2
  clear g2 h2 OE H0 X0 hx0 hx1
  dsimp only
  go_wp2
  go_loopw [4, 5] (fun v i wr => ∃ (j b cb q : Nat) (M : List Int), j ≤ 9 ∧ i = .int .i64 j ∧ v = .slice (some ⟨b, 0, none⟩) M.length cb ∧ q + 2 * j ≤ 100 ∧ M.length + j ≤ 9 ∧ w1.heap.size ≤ wr.heap.size ∧ Hid (∀ x ∈ M, -30000 ≤ x ∧ x ≤ 30000) ∧ Hid (wr.ownsRow w1.heap.size 2 1 (.slice (some ⟨b, 0, none⟩) M.length cb) M.length (M.flatMap iv)) ∧ Hid (Gx (some s) w1 wr) ∧ Hid (Src wr s A n c L q)) (fun _ i _ => (intOf i).toNat)
  case atStart => exact ⟨x, w1.heap.size, 0, 0 + 2, [], hx9, rfl, rfl, by omega, by simpa using hx9, World.grownBy.size X2.out, Lib.hid (fun y hy => by simp at hy), O2, X2, H2⟩
  case round =>
    clear O2 X2 H2 hx9
    obtain ⟨j, b, cb, q, M, hj, rfl, rfl, hq, hM, hsr, HB, HO, X0, HS2⟩ := hrel
    rcases j with _ | j
    · go_wp2
      go_ret
      exact ⟨b, cb, M, rfl, by omega, HB.out, Gx.G G1.out X0.out (by intro i hi; cases hi; exact hsw), HO.out.mono (by omega)⟩
    · obtain ⟨k, hk⟩ : ∃ k : Nat, k = j + 1 := ⟨_, rfl⟩
      rw [← hk] at hj hq hM ⊢
      have hk0 : (0 : Int) < (k : Int) := by omega
      have hk1 : (k : Int) - 1 = (j : Int) := by omega
      go_wp2_with fail
      refine (pick_any 60000 _ s A n c L _ HS2.out (by omega) (by omega)).mono ?_
      rintro e w3 ⟨v3, ⟨y, hy0, hy1, rfl⟩, rfl, g3, h3⟩
      have X3 := Lib.hid (Gx.trans X0.out g3)
      have O3 := Lib.hid (own_src HO.out (by omega) g3)
      have H3 := Lib.hid h3
      have z3 := World.grownBy.size X3.out
      clear g3 h3 HO HS2 X0
      dsimp only
      obtain ⟨y2, HY⟩ : ∃ z, Hid (y - 30000 = z) := ⟨_, rfl⟩
      have hyb : -30000 ≤ y2 ∧ y2 ≤ 30000 := by rw [← HY.out]; omega
      have hw : IntKind.i64.wrap (y - 30000) = y2 := by rw [HY.out]; exact IntWalk.i64_in _ (by omega)
      have hy2 : y - 30000 = y2 := HY.out
      go_wp2_with (at_builtin; refine wpList_append_own _ rfl (.tmp 15) (.tmp 19) 24 rfl w1.heap.size 2 i0 (.int .i64 0) 1 8 Tryd.underlying24 HI.out.1 HI.out.2.1 HI.out.2.2.1 HI.out.2.2.2 rfl (by decide) _ M.length _ rfl (O3.out.alloc _) ⟨w3.heap.size, 0, none⟩ 1 1 [.int .i64 y2] rfl rfl (block_news _ [.int .i64 y2] _) (int_oneCell y2) ?c1 ?c2 ?c3 ?_)
      case c1 => unfold maxLen; omega
      case c2 => omega
      case c3 => first | omega | (simp; omega)
      intro v' w4 hown hgrow _
      have gx := (G.refl w3).alloc (.cells #[.int .i64 y2] 2)
      have O4 := Lib.hid (show w4.ownsRow w1.heap.size 2 1 v' (M ++ [y2]).length ((M ++ [y2]).flatMap iv) by rw [List.length_append, List.flatMap_append]; simpa [iv] using hown)
      have X4 := Lib.hid (Gx.grown (Gx.trans X3.out (Gx.of_G gx _)) hgrow (own_block_of O3.out))
      have H4 := Lib.hid ((H3.out.g gx).grown hgrow (fun k hk => by have := own_block_of O3.out k hk; omega))
      have z4 := World.grownBy.size X4.out
      obtain ⟨A4, c4, rfl⟩ := own_val3 O4.out
      obtain ⟨b4, rfl⟩ := own_some3 O4.out (by simp)
      have HB4 := Lib.hid (show ∀ z ∈ M ++ [y2], -30000 ≤ z ∧ z ≤ 30000 from fun z hz => by
        simp only [List.mem_append, List.mem_singleton] at hz
        rcases hz with hz | rfl
        · exact HB.out z hz
        · exact hyb)
      have hl4 : (M ++ [y2]).length = M.length + 1 := by simp
      clear hown hgrow gx hw hy2
      go_wp2
      go_roundw
      case rel => exact ⟨j, b4, c4, q + 2, M ++ [y2], by omega, by go_num, rfl, by omega, by omega, z4, HB4, O4, X4, H4⟩
      case measure => simp [intOf]; omega
end Go.Proofs.YtmcddcdhppomkaaDoor
