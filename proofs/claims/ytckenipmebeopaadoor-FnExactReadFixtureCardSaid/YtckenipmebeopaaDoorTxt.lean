/-
  Walks: texts cut, numbers read, by both texts.
-/
import Derived.Test.YtckenipmebeopaaDoorTxtM
import Derived.Test.YtckenipmebeopaaDoorDecI
import Derived.Test.YtckenipmebeopaaDoorStrs
import Derived.Test.YtckenipmebeopaaDoorSlc
import Derived.Test.YtckenipmebeopaaDoorNames
namespace Go.Proofs.YtckenipmebeopaaDoor
open Go.RowKit

/-- What the readers need of the library's variables. -/
structure Env (w : World) : Prop where
  tab : TabP w
  most : ∃ m, w.cell? ⟨0, 0, none⟩ = some (.int .i64 m)
  es : ∃ ev, w.cell? ⟨2, 0, none⟩ = some ev ∧ (ev = .nilIface ∨ ∃ te pe, ev = .iface te pe)
  er : ∃ ev, w.cell? ⟨3, 0, none⟩ = some ev ∧ (ev = .nilIface ∨ ∃ te pe, ev = .iface te pe)
theorem Env.G {w w' : World} (h : Env w) (g : G w w') : Env w' :=
  ⟨h.tab.G g, by obtain ⟨m, hm⟩ := h.most; exact ⟨m, g.cell hm⟩, by obtain ⟨m, hm, k⟩ := h.es; exact ⟨m, g.cell hm, k⟩, by obtain ⟨m, hm, k⟩ := h.er; exact ⟨m, g.cell hm, k⟩⟩
theorem ret_nb {a n : Int} {b c : Bool} (h1 : n = a) (h2 : c = b) : Ending.returned (.tuple #[.int .i64 a, .bool b]) = .returned (.tuple #[.int .i64 n, .bool c]) := by rw [h1, h2]
/-- A literal list of texts. -/
theorem rd_lst (w : World) (M : List ByteArray) (T : Nat) : Rd (w.alloc (.cells (M.map Value.string).toArray T)) (some ⟨w.heap.size, 0, none⟩) 1 sv M := fun _ => by
  refine ⟨w.heap.size, 0, rfl, fun i x j u hi hj => ?_⟩
  match j, hj with
  | 0, hj =>
    simp only [sv, List.getElem?_cons_zero, Option.some.injEq] at hj
    subst hj
    rw [World.cell?_alloc_at _ _ _ _ rfl]
    simp [hi]
  | j + 1, hj => simp [sv] at hj
theorem lst_own {w w' : World} {M : List ByteArray} {v : Value} (ho : w'.ownsRow w.heap.size 9 1 v M.length (M.flatMap sv)) (hg : G w w') : Lst w 9 1 sv M (.returned v) w' := ⟨v, rfl, ho, hg⟩

theorem own_up {w : World} {b c T sz n : Nat} {v : Value} {xs : List Value} (h : w.ownsRow b T sz v n xs) (hc : c ≤ b) : w.ownsRow c T sz v n xs := by
  refine ⟨h.1, ?_⟩
  rcases h.2 with h1 | ⟨g, cap, cur, h1, h2, h3⟩
  · exact .inl h1
  · exact .inr ⟨g, cap, cur, h1, Nat.le_trans hc h2, h3⟩
theorem parsed_G {w w' : World} {T : Nat} (h : w' = w ∨ ∃ t, w' = Lib.bytesWorld w T t) : G w w' := by
  rcases h with rfl | ⟨t, rfl⟩
  · exact G.refl _
  · exact Go.Joins.below_bytesWorld w.heap.size w T t (Nat.le_refl _)

set_option maxRecDepth 20000 in
set_option maxHeartbeats 4000000 in
theorem l01Split_any (s : ByteArray) (c : UInt8) (b : Int) (hcb : (c.toNat : Int) = b) (hs : s.size ≤ 4194304) (w : World) :
    Calls Tryd.prog 27 #[.string s, .int .u8 b] w (Lst w 9 1 sv (splitS c s)) := by
  obtain ⟨i0, hi, hz0, hz1, hz2⟩ := info_parts infoString
  have HI := Lib.hid (And.intro hi (And.intro hz0 (And.intro hz1 hz2)))
  clear hi hz0 hz1 hz2
  have OE := Lib.hid (World.ownsRow_lit (e := 9) (base := w.heap.size) (size := 1) w #[] 0 (Nat.le_refl _) (by unfold maxLen; omega) rfl)
  have GE := Lib.hid ((G.refl w).alloc (.cells #[] 9))
  have HCB := Lib.hid hcb
  clear hcb
  go_enter Tryd.func27, Tryd.ntmps27
  go_wp2
  go_loopw [5, 6, 7] (fun v f i wr => ∃ (k o : Nat) (M : List ByteArray), k ≤ s.size ∧ o ≤ k ∧ i = .int .i64 (k : Int) ∧ f = .int .i64 (o : Int) ∧ M.length ≤ o ∧ Hid (M ++ (splitL c (s.data.toList.drop o)).map mkB = splitS c s) ∧ Hid (∀ j, o ≤ j → j < k → s.data.toList[j]? ≠ some c) ∧ Hid (wr.ownsRow w.heap.size 9 1 v M.length (M.flatMap sv)) ∧ Hid (G w wr)) (fun _ _ i _ => s.size - (intOf i).toNat)
  case atStart => exact ⟨0, 0, [], Nat.zero_le _, Nat.le_refl _, rfl, rfl, Nat.zero_le _, Lib.hid rfl, Lib.hid (fun j h1 h2 => absurd h2 (Nat.not_lt_zero _)), OE, GE⟩
  case round =>
    clear OE GE
    obtain ⟨k, o, M, hk, hok, rfl, rfl, hM, HS, HN, HO, G0⟩ := hrel
    have hsz := G0.out.size
    have hok2 : (o : Int) ≤ (k : Int) := by omega
    have ho0 : (0 : Int) ≤ (o : Int) := by omega
    have hk0 : (0 : Int) ≤ (k : Int) := by omega
    by_cases hlt : k < s.size
    · have HB := Lib.hid (byte_at hlt)
      have hlt2 : (k : Int) < (s.size : Int) := by omega
      by_cases hc : s[k] = c
      · have hd : ((s[k].toNat : Int) == b) = true := by rw [hc, HCB.out]; simp
        have HS2 := Lib.hid (split_at (c := c) (by rw [← hc]; exact HB.out) hok HN.out)
        obtain ⟨x, HX⟩ : ∃ x, Hid (s.extract o k = x) := ⟨_, rfl⟩
        have hx := HX.out
        rw [hx] at HS2
        clear hc
        go_wp2_with (at_builtin; refine wpList_append_own _ rfl (.tmp 20) (.tmp 25) 43 rfl (w.heap.size) 9 i0 (.string ⟨#[]⟩) 1 16 Tryd.underlying43 HI.out.1 HI.out.2.1 HI.out.2.2.1 HI.out.2.2.2 rfl (by decide) _ M.length _ rfl (HO.out.alloc _) ⟨wr.heap.size, 0, none⟩ 1 1 (sv x) rfl rfl (block_news _ (sv x) _) (str_oneCell _) ?c1 ?c2 ?c3 ?_)
        case c1 => unfold maxLen; omega
        case c2 => omega
        case c3 => first | omega | (simp; omega)
        intro v' w4 hown hgrow _
        have gx := (G.refl wr).alloc (.cells (sv x).toArray 9)
        have O4 := Lib.hid (show w4.ownsRow w.heap.size 9 1 v' (M ++ [x]).length ((M ++ [x]).flatMap sv) by rw [List.length_append, List.flatMap_append]; simpa using hown)
        have G4 := Lib.hid ((G0.out.trans gx).grown hgrow (own_block_of HO.out))
        have HS4 := Lib.hid (show (M ++ [x]) ++ (splitL c (s.data.toList.drop (k + 1))).map mkB = splitS c s by rw [← HS.out, HS2.out, List.append_assoc]; rfl)
        clear hown hgrow gx
        go_wp2
        go_roundw
        case rel => exact ⟨k + 1, k + 1, M ++ [x], by omega, Nat.le_refl _, by go_num, by go_num, by simp; omega, HS4, Lib.hid (fun j h1 h2 => absurd h2 (by omega)), O4, G4⟩
        case measure => first | (simp [intOf]; done) | (simp [intOf]; omega)
      · have hd : ((s[k].toNat : Int) == b) = false := by
          rw [← HCB.out]
          simp only [beq_eq_false_iff_ne, ne_eq, Int.natCast_inj]
          exact fun e => hc (UInt8.toNat_inj.1 e)
        have HN2 := Lib.hid (show ∀ j, o ≤ j → j < k + 1 → s.data.toList[j]? ≠ some c from fun j h1 h2 => by
          by_cases hj : j = k
          · subst hj; rw [HB.out]; exact fun e => hc (Option.some.inj e)
          · exact HN.out j h1 (by omega))
        clear hc
        go_wp2
        go_roundw
        case rel => exact ⟨k + 1, o, M, by omega, by omega, by go_num, rfl, hM, HS, HN2, HO, G0⟩
        case measure => first | (simp [intOf]; done) | (simp [intOf]; omega)
    · have hks : k = s.size := by omega
      have HS2 := Lib.hid (split_end (c := c) (s := s) (o := o) (fun j h1 h2 => HN.out j h1 (by omega)))
      have hos : (o : Int) ≤ (s.size : Int) := by omega
      obtain ⟨x, HX⟩ : ∃ x, Hid (s.extract o s.size = x) := ⟨_, rfl⟩
      have hx := HX.out
      rw [hx] at HS2
      go_wp2_with (at_builtin; refine wpList_append_own _ rfl (.tmp 29) (.tmp 33) 43 rfl (w.heap.size) 9 i0 (.string ⟨#[]⟩) 1 16 Tryd.underlying43 HI.out.1 HI.out.2.1 HI.out.2.2.1 HI.out.2.2.2 rfl (by decide) _ M.length _ rfl (HO.out.alloc _) ⟨wr.heap.size, 0, none⟩ 1 1 (sv x) rfl rfl (block_news _ (sv x) _) (str_oneCell _) ?c1 ?c2 ?c3 ?_)
      case c1 => unfold maxLen; omega
      case c2 => omega
      case c3 => first | omega | (simp; omega)
      intro v' w4 hown hgrow _
      have gx := (G.refl wr).alloc (.cells (sv x).toArray 9)
      have HS4 := Lib.hid (show M ++ [x] = splitS c s by rw [← HS.out, HS2.out])
      have O4 := Lib.hid (show w4.ownsRow w.heap.size 9 1 v' (splitS c s).length ((splitS c s).flatMap sv) by rw [← HS4.out, List.length_append, List.flatMap_append]; simpa using hown)
      have G4 := Lib.hid ((G0.out.trans gx).grown hgrow (own_block_of HO.out))
      clear hown hgrow gx
      go_wp2
      go_ret
      exact lst_own O4.out G4.out

set_option maxRecDepth 20000 in
set_option maxHeartbeats 4000000 in
theorem l01Number_any (s : ByteArray) (hs : s.size ≤ 4194304) (w : World) :
    Calls Tryd.prog 28 #[.string s] w fun e w' => e = .returned (.tuple #[.int .i64 (valN s), .bool (okN s)]) ∧ G w w' := by
  by_cases h0 : s.size = 0
  · have he : s = ⟨#[]⟩ := by
      cases s with
      | mk d => congr; exact Array.eq_empty_of_size_eq_zero h0
    have H := Lib.hid (okN_no (no_of_len (s := s) (a := 0) (.inr ⟨rfl, by rw [he]; simp⟩) (.inl h0)))
    subst he
    clear hs h0
    go_enter Tryd.func28, Tryd.ntmps28
    go_wp2
    go_ret2
    exact ⟨ret_nb H.out.2 H.out.1, G.refl _⟩
  have hpos : 0 < s.size := by omega
  have hp2 : (0 : Int) < (s.size : Int) := by omega
  have HB0 := Lib.hid (byte_at hpos)
  clear h0
  by_cases h45 : s[0].toNat = 45
  · have hd : ((s[0].toNat : Int) == 45) = true := by rw [h45]; rfl
    have HA := Lib.hid (show AtOf s.data.toList 1 from .inl ⟨rfl, by rw [List.head?_eq_getElem?, HB0.out]; exact congrArg some (UInt8.toNat_inj.1 h45)⟩)
    clear h45
    by_cases hl1 : s.size = 1
    · have H := Lib.hid (okN_no (no_of_len HA.out (.inl hl1)))
      have hl2 : ((s.size : Int) == 1) = true := by simp; omega
      go_enter Tryd.func28, Tryd.ntmps28
      go_wp2
      go_ret2
      exact ⟨ret_nb H.out.2 H.out.1, G.refl _⟩
    have hl2 : ((s.size : Int) == 1) = false := by rw [beq_eq_false_iff_ne]; omega
    by_cases hl3 : 18 < s.size - 1
    · have H := Lib.hid (okN_no (no_of_len HA.out (.inr hl3)))
      have hl4 : 18 < (s.size : Int) - 1 := by omega
      go_enter Tryd.func28, Tryd.ntmps28
      go_wp2
      go_ret2
      exact ⟨ret_nb H.out.2 H.out.1, G.refl _⟩
    have hl4 : (s.size : Int) - 1 ≤ 18 := by omega
    have ha : 1 < s.size := by omega
    have HB1 := Lib.hid (byte_at ha)
    have ha2 : (1 : Int) < (s.size : Int) := by omega
    by_cases hz : s[1].toNat = 48
    · have hz2 : ((s[1].toNat : Int) == 48) = true := by rw [hz]; rfl
      have HZ8 := Lib.hid (show s[1] = 48 from UInt8.toNat_inj.1 hz)
      have H := Lib.hid (okN_no (no_of_zero HA.out (by rw [← HZ8.out]; exact HB1.out) (by omega)))
      go_enter Tryd.func28, Tryd.ntmps28
      go_wp2
      go_ret2
      exact ⟨ret_nb H.out.2 H.out.1, G.refl _⟩
    have hz2 : ((s[1].toNat : Int) == 48) = false := by simp; omega
    have HZ := Lib.hid (show ¬ (s.data.toList[1]? = some 48 ∧ 1 < s.size) from fun e => by
      have := HB1.out.symm.trans e.1
      have h8 := congrArg UInt8.toNat (Option.some.inj this)
      exact hz h8)
    clear hz
    go_enter Tryd.func28, Tryd.ntmps28
    go_wp2
    go_loopw [5, 6] (fun v i wr => ∃ (k u : Nat), 1 ≤ k ∧ k ≤ s.size ∧ i = .int .i64 (k : Int) ∧ v = .int .i64 (u : Int) ∧ Hid (Lib.decFrom 0 ((s.data.toList.drop 1).take (k - 1)) = some u) ∧ Hid (G w wr)) (fun _ i _ => s.size - (intOf i).toNat)
    case atStart => exact ⟨1, 0, Nat.le_refl _, by omega, rfl, rfl, Lib.hid rfl, Lib.hid (G.refl _)⟩
    case round =>
      obtain ⟨k, u, hk1, hk, rfl, rfl, HD, G0⟩ := hrel
      have hk0 : (0 : Int) ≤ (k : Int) := by omega
      by_cases hlt : k < s.size
      · have hlt2 : (k : Int) < (s.size : Int) := by omega
        have HB := Lib.hid (byte_at hlt)
        have KD := Lib.hid (fun (W : World) => l01Digit_any s[k].toNat W)
        cases hg : digitI s[k].toNat
        · have H := Lib.hid (okN_no (no_of_char HA.out hk1 HB.out (fun e => by unfold digitI at hg; simp only [decide_eq_false_iff_not] at hg; omega)))
          rw [hg] at KD
          clear hg
          go_wp2_with (go_at_call 32; refine (KD.out _).mono ?_; rintro e w' ⟨rfl, rfl⟩)
          go_ret2
          exact ⟨ret_nb H.out.2 H.out.1, G0.out⟩
        · have hg2 : 48 ≤ (s[k].toNat : Int) ∧ (s[k].toNat : Int) ≤ 57 := by unfold digitI at hg; simpa using hg
          obtain ⟨hg3, hg4⟩ := hg2
          have hu := dec_lt HD.out (by omega)
          have HD2 := Lib.hid (dec_step HD.out hk1 HB.out (by omega) (by omega))
          rw [hg] at KD
          clear hg
          go_wp2_with (go_at_call 32; refine (KD.out _).mono ?_; rintro e w' ⟨rfl, rfl⟩)
          go_roundw
          case rel => exact ⟨k + 1, u * 10 + (s[k].toNat - 48), by omega, by omega, by go_num, by first | (go_num; done) | (congr 1; omega), HD2, G0⟩
          case measure => first | (simp [intOf]; done) | (simp [intOf]; omega)
      · have hks : k = s.size := by omega
        subst hks
        have H := Lib.hid (okN_of (yes_of HA.out (dec_all HD.out) (by omega) (by omega) HZ.out))
        have hu : u < 1000000000000000000 := Lib.decFrom_lt18 (dec_all HD.out) (by rw [List.length_drop, size_data]; omega)
        go_wp2
        go_ret2
        exact ⟨ret_nb (H.out.2.trans (by simp)) H.out.1, G0.out⟩
  · have hd : ((s[0].toNat : Int) == 45) = false := by simp; omega
    have HA := Lib.hid (show AtOf s.data.toList 0 from .inr ⟨rfl, by rw [List.head?_eq_getElem?, HB0.out]; exact fun e => h45 (congrArg UInt8.toNat (Option.some.inj e))⟩)
    clear h45
    by_cases hl1 : s.size = 0
    · omega
    have hl2 : ((s.size : Int) == 0) = false := by rw [beq_eq_false_iff_ne]; omega
    by_cases hl3 : 18 < s.size - 0
    · have H := Lib.hid (okN_no (no_of_len HA.out (.inr hl3)))
      have hl4 : 18 < (s.size : Int) - 0 := by omega
      go_enter Tryd.func28, Tryd.ntmps28
      go_wp2
      go_ret2
      exact ⟨ret_nb H.out.2 H.out.1, G.refl _⟩
    have hl4 : (s.size : Int) - 0 ≤ 18 := by omega
    have ha : 0 < s.size := by omega
    have HB1 := Lib.hid (byte_at ha)
    have ha2 : (0 : Int) < (s.size : Int) := by omega
    by_cases hz : s[0].toNat = 48
    · have hz2 : ((s[0].toNat : Int) == 48) = true := by rw [hz]; rfl
      have HZ8 := Lib.hid (show s[0] = 48 from UInt8.toNat_inj.1 hz)
      by_cases h1s : 1 < s.size
      · have H := Lib.hid (okN_no (no_of_zero HA.out (by rw [← HZ8.out]; exact HB1.out) (by omega)))
        have h1s2 : (1 : Int) < (s.size : Int) := by omega
        go_enter Tryd.func28, Tryd.ntmps28
        go_wp2
        go_ret2
        exact ⟨ret_nb H.out.2 H.out.1, G.refl _⟩
      · have HZ := Lib.hid (show ¬ (s.data.toList[0]? = some 48 ∧ 1 < s.size) from fun e => h1s e.2)
        have h1s2 : (s.size : Int) ≤ 1 := by omega
        go_enter Tryd.func28, Tryd.ntmps28
        go_wp2
        go_loopw [5, 6] (fun v i wr => ∃ (k u : Nat), 0 ≤ k ∧ k ≤ s.size ∧ i = .int .i64 (k : Int) ∧ v = .int .i64 (u : Int) ∧ Hid (Lib.decFrom 0 ((s.data.toList.drop 0).take (k - 0)) = some u) ∧ Hid (G w wr)) (fun _ i _ => s.size - (intOf i).toNat)
        case atStart => exact ⟨0, 0, Nat.le_refl _, by omega, rfl, rfl, Lib.hid rfl, Lib.hid (G.refl _)⟩
        case round =>
          obtain ⟨k, u, hk1, hk, rfl, rfl, HD, G0⟩ := hrel
          have hk0 : (0 : Int) ≤ (k : Int) := by omega
          by_cases hlt : k < s.size
          · have hlt2 : (k : Int) < (s.size : Int) := by omega
            have HB := Lib.hid (byte_at hlt)
            have KD := Lib.hid (fun (W : World) => l01Digit_any s[k].toNat W)
            cases hg : digitI s[k].toNat
            · have H := Lib.hid (okN_no (no_of_char HA.out hk1 HB.out (fun e => by unfold digitI at hg; simp only [decide_eq_false_iff_not] at hg; omega)))
              rw [hg] at KD
              clear hg
              go_wp2_with (go_at_call 32; refine (KD.out _).mono ?_; rintro e w' ⟨rfl, rfl⟩)
              go_ret2
              exact ⟨ret_nb H.out.2 H.out.1, G0.out⟩
            · have hg2 : 48 ≤ (s[k].toNat : Int) ∧ (s[k].toNat : Int) ≤ 57 := by unfold digitI at hg; simpa using hg
              obtain ⟨hg3, hg4⟩ := hg2
              have hu := dec_lt HD.out (by omega)
              have HD2 := Lib.hid (dec_step HD.out hk1 HB.out (by omega) (by omega))
              rw [hg] at KD
              clear hg
              go_wp2_with (go_at_call 32; refine (KD.out _).mono ?_; rintro e w' ⟨rfl, rfl⟩)
              go_roundw
              case rel => exact ⟨k + 1, u * 10 + (s[k].toNat - 48), by omega, by omega, by go_num, by first | (go_num; done) | (congr 1; omega), HD2, G0⟩
              case measure => first | (simp [intOf]; done) | (simp [intOf]; omega)
          · have hks : k = s.size := by omega
            subst hks
            have H := Lib.hid (okN_of (yes_of HA.out (dec_all HD.out) (by omega) (by omega) HZ.out))
            have hu : u < 1000000000000000000 := Lib.decFrom_lt18 (dec_all HD.out) (by rw [List.length_drop, size_data]; omega)
            go_wp2
            go_ret2
            exact ⟨ret_nb (H.out.2.trans (by simp)) H.out.1, G0.out⟩
    have hz2 : ((s[0].toNat : Int) == 48) = false := by simp; omega
    have HZ := Lib.hid (show ¬ (s.data.toList[0]? = some 48 ∧ 1 < s.size) from fun e => by
      have := HB1.out.symm.trans e.1
      have h8 := congrArg UInt8.toNat (Option.some.inj this)
      exact hz h8)
    clear hz
    go_enter Tryd.func28, Tryd.ntmps28
    go_wp2
    go_loopw [5, 6] (fun v i wr => ∃ (k u : Nat), 0 ≤ k ∧ k ≤ s.size ∧ i = .int .i64 (k : Int) ∧ v = .int .i64 (u : Int) ∧ Hid (Lib.decFrom 0 ((s.data.toList.drop 0).take (k - 0)) = some u) ∧ Hid (G w wr)) (fun _ i _ => s.size - (intOf i).toNat)
    case atStart => exact ⟨0, 0, Nat.le_refl _, by omega, rfl, rfl, Lib.hid rfl, Lib.hid (G.refl _)⟩
    case round =>
      obtain ⟨k, u, hk1, hk, rfl, rfl, HD, G0⟩ := hrel
      have hk0 : (0 : Int) ≤ (k : Int) := by omega
      by_cases hlt : k < s.size
      · have hlt2 : (k : Int) < (s.size : Int) := by omega
        have HB := Lib.hid (byte_at hlt)
        have KD := Lib.hid (fun (W : World) => l01Digit_any s[k].toNat W)
        cases hg : digitI s[k].toNat
        · have H := Lib.hid (okN_no (no_of_char HA.out hk1 HB.out (fun e => by unfold digitI at hg; simp only [decide_eq_false_iff_not] at hg; omega)))
          rw [hg] at KD
          clear hg
          go_wp2_with (go_at_call 32; refine (KD.out _).mono ?_; rintro e w' ⟨rfl, rfl⟩)
          go_ret2
          exact ⟨ret_nb H.out.2 H.out.1, G0.out⟩
        · have hg2 : 48 ≤ (s[k].toNat : Int) ∧ (s[k].toNat : Int) ≤ 57 := by unfold digitI at hg; simpa using hg
          obtain ⟨hg3, hg4⟩ := hg2
          have hu := dec_lt HD.out (by omega)
          have HD2 := Lib.hid (dec_step HD.out hk1 HB.out (by omega) (by omega))
          rw [hg] at KD
          clear hg
          go_wp2_with (go_at_call 32; refine (KD.out _).mono ?_; rintro e w' ⟨rfl, rfl⟩)
          go_roundw
          case rel => exact ⟨k + 1, u * 10 + (s[k].toNat - 48), by omega, by omega, by go_num, by first | (go_num; done) | (congr 1; omega), HD2, G0⟩
          case measure => first | (simp [intOf]; done) | (simp [intOf]; omega)
      · have hks : k = s.size := by omega
        subst hks
        have H := Lib.hid (okN_of (yes_of HA.out (dec_all HD.out) (by omega) (by omega) HZ.out))
        have hu : u < 1000000000000000000 := Lib.decFrom_lt18 (dec_all HD.out) (by rw [List.length_drop, size_data]; omega)
        go_wp2
        go_ret2
        exact ⟨ret_nb (H.out.2.trans (by simp)) H.out.1, G0.out⟩

set_option maxRecDepth 20000 in
set_option maxHeartbeats 4000000 in
theorem ReadDecimal_any (s : ByteArray) (hs : s.size ≤ 4194304) (w : World) (hE : Env w) :
    Calls Tryd.prog 30 #[.string s] w fun e w' => e = .returned (.tuple #[.int .i64 (valN s), .bool (okN s)]) ∧ G w w' := by
  have HE := Lib.hid hE
  clear hE
  obtain ⟨d, HD⟩ : ∃ d, Hid (mkB (digsOf s.data.toList) = d) := ⟨_, rfl⟩
  have hdl : d.size = (digsOf s.data.toList).length := by rw [← HD.out, mkB_size]
  have KT := Lib.hid (fun (W : World) => show Calls Tryd.prog 35 #[.string s, .string ⟨#[45]⟩] W fun e w' => e = .returned (.string d) ∧ w' = W by
    rw [← HD.out]; exact Tryd.strings_TrimPrefix s ⟨#[45]⟩ W)
  have hbad : ¬ (1 ≤ (digsOf s.data.toList).length ∧ (digsOf s.data.toList).length ≤ 18) → okN s = false ∧ valN s = 0 := fun h => okN_no (num_none (s := s) fun n hn => h hn.digs)
  by_cases h1 : d.size < 1
  · have H := Lib.hid (hbad (by omega))
    have h1' : (d.size : Int) < 1 := by omega
    clear hbad hdl
    go_enter Tryd.func30, Tryd.ntmps30
    go_wp2_with (go_at_call 35; refine (KT.out _).mono ?_; rintro e w' ⟨rfl, rfl⟩)
    go_ret2
    exact ⟨ret_nb H.out.2 H.out.1, G.refl _⟩
  by_cases h2 : 18 < d.size
  · have H := Lib.hid (hbad (by omega))
    have h2' : 18 < (d.size : Int) := by omega
    clear hbad hdl
    go_enter Tryd.func30, Tryd.ntmps30
    go_wp2_with (go_at_call 35; refine (KT.out _).mono ?_; rintro e w' ⟨rfl, rfl⟩)
    go_ret2
    exact ⟨ret_nb H.out.2 H.out.1, G.refl _⟩
  have h1' : 1 ≤ (d.size : Int) := by omega
  have h2' : (d.size : Int) ≤ 18 := by omega
  have HL := Lib.hid (show (digsOf s.data.toList).length ≤ 18 by omega)
  clear hbad hdl
  cases hp : Lib.parseIntB 64 s.data.toList with
  | ok v =>
    have KP := Lib.hid (fun (W : World) => Tryd.strconv_ParseInt_10_at64_ok s (by omega) v hp W)
    have hvb := Lib.parseIntB_bounds hp
    have hv0 : -9223372036854775808 ≤ v := by have := hvb.1; simpa using this
    have hv1 : v ≤ 9223372036854775807 := by have h := hvb.2; simp at h; omega
    clear hvb
    have KD := Lib.hid (fun (W : World) (g : G w W) => Decimal_any v hv0 hv1 W (HE.out.tab.G g))
    by_cases he : dec v = s
    · have HS := Lib.hid (okN_of (num_of (spells_iff hv0 hv1 HL.out he)))
      have hes : (s.toList == s.toList) = true := by simp
      rw [he] at KD
      clear hp he
      go_enter Tryd.func30, Tryd.ntmps30
      go_wp2_with (first | (go_at_call 35; refine (KT.out _).mono ?_; rintro e w' ⟨rfl, rfl⟩) | (go_at_call 36; refine (KP.out _).mono ?_; rintro e w1 ⟨rfl, hw⟩; have G1 := Lib.hid (parsed_G hw); clear hw) | (go_at_call 15; refine (KD.out _ G1.out).mono ?_; rintro e w2 ⟨rfl, g2⟩; have G2 := Lib.hid (G1.out.trans g2); clear g2))
      go_ret2
      exact ⟨ret_nb HS.out.2 HS.out.1, G2.out⟩
    · have HS := Lib.hid (okN_no (num_none (s := s) fun n hn => he (by
        have := hn.parse
        rw [hp] at this
        injection this with this
        subst this
        exact hn.2.2)))
      have hes : ((dec v).toList == s.toList) = false := by
        simp only [beq_eq_false_iff_ne, ne_eq]
        exact fun e => he (by rw [ByteArray.toList_eq, ByteArray.toList_eq] at e; rw [← mkB_of (dec v), e, mkB_of])
      obtain ⟨t, HT⟩ : ∃ t, Hid (dec v = t) := ⟨_, rfl⟩
      rw [HT.out] at KD hes
      clear hp he
      go_enter Tryd.func30, Tryd.ntmps30
      go_wp2_with (first | (go_at_call 35; refine (KT.out _).mono ?_; rintro e w' ⟨rfl, rfl⟩) | (go_at_call 36; refine (KP.out _).mono ?_; rintro e w1 ⟨rfl, hw⟩; have G1 := Lib.hid (parsed_G hw); clear hw) | (go_at_call 15; refine (KD.out _ G1.out).mono ?_; rintro e w2 ⟨rfl, g2⟩; have G2 := Lib.hid (G1.out.trans g2); clear g2))
      go_ret2
      exact ⟨ret_nb HS.out.2 HS.out.1, G2.out⟩
  | range =>
    obtain ⟨ev, hev, hvv⟩ := HE.out.er
    have KP := Lib.hid (Tryd.strconv_ParseInt_10_at64_range s (by omega) hp ev w hev hvv)
    have HS := Lib.hid (okN_no (num_none (s := s) fun n hn => by have := hn.parse; rw [hp] at this; cases this))
    clear hp hev hvv
    go_enter Tryd.func30, Tryd.ntmps30
    go_wp2_with (first | (go_at_call 35; refine (KT.out _).mono ?_; rintro e w' ⟨rfl, rfl⟩) | (go_at_call 36; refine KP.out.mono ?_; rintro e w1 ⟨N, rfl, hN, hb, g1⟩; have G1 := Lib.hid g1; clear g1 hb))
    go_ret2
    exact ⟨ret_nb HS.out.2 HS.out.1, G1.out⟩
  | _ =>
    obtain ⟨ev, hev, hvv⟩ := HE.out.es
    have KP := Lib.hid (Tryd.strconv_ParseInt_10_at64_syntax s (by omega) hp ev w hev hvv)
    have HS := Lib.hid (okN_no (num_none (s := s) fun n hn => by have := hn.parse; rw [hp] at this; cases this))
    clear hp hev hvv
    go_enter Tryd.func30, Tryd.ntmps30
    go_wp2_with (first | (go_at_call 35; refine (KT.out _).mono ?_; rintro e w' ⟨rfl, rfl⟩) | (go_at_call 36; refine KP.out.mono ?_; rintro e w1 ⟨N, rfl, hN, hb, g1⟩; have G1 := Lib.hid g1; clear g1 hb))
    go_ret2
    exact ⟨ret_nb HS.out.2 HS.out.1, G1.out⟩

/-- A result: a list of the call's own and whether it is one. -/
def ResB {α : Type} (w : World) (T sz : Nat) (f : α → List Value) (R : List α × Bool) (e : Ending) (w' : World) : Prop :=
  ∃ A c, e = .returned (.tuple #[.slice A R.1.length c, .bool R.2]) ∧ G w w' ∧ w'.ownsRow w.heap.size T sz (.slice A R.1.length c) R.1.length (R.1.flatMap f)
theorem resb_nil {α : Type} {w w' : World} {T sz : Nat} {f : α → List Value} {R : List α × Bool} {b : Bool} (h : R = ([], b)) (hg : G w w') : ResB w T sz f R (.returned (.tuple #[.slice none 0 0, .bool b])) w' := by
  subst h
  exact ⟨none, 0, rfl, hg, World.ownsRow_nil _ _ _ _⟩
theorem resb_own {α : Type} {w w' : World} {T sz : Nat} {f : α → List Value} {R : List α × Bool} {M : List α} {v : Value} {n : Nat} {b : Bool} (h : R = (M, b)) (hn : M.length = n) (ho : w'.ownsRow w.heap.size T sz v n (M.flatMap f)) (hg : G w w') : ResB w T sz f R (.returned (.tuple #[v, .bool b])) w' := by
  subst h
  subst hn
  rcases ho.2 with ⟨hv, hn0⟩ | ⟨g, cap, cur, hv, _⟩
  · rw [hv, hn0] at ho
    rw [hv]
    exact ⟨none, 0, by show Ending.returned _ = Ending.returned _; simp only [hn0], hg, by simp only [hn0]; exact ho⟩
  · rw [hv] at ho
    rw [hv]
    exact ⟨_, _, rfl, hg, ho⟩
theorem infoInt64 : (Tryd.prog.info? 2).map (fun i => (i.zero, i.size, i.bytes)) = some (some (.int .i64 0), 1, 8) := by kernel_rfl
set_option maxRecDepth 20000 in
set_option maxHeartbeats 4000000 in
theorem readNumbers_any (A : Option Addr) (n c : Nat) (L : List ByteArray) (w : World) (hr : Rd w A 1 sv L) (hn : L.length = n) (hb : n ≤ 4194304) (hx : ∀ x ∈ L, x.size ≤ 4194304) (hE : Env w) :
    Calls Tryd.prog 18 #[.slice A n c] w (ResB w 2 1 iv (numsR L)) := by
  obtain ⟨i0, hi, hz0, hz1, hz2⟩ := info_parts infoInt64
  have HI := Lib.hid (And.intro hi (And.intro hz0 (And.intro hz1 hz2)))
  clear hi hz0 hz1 hz2
  have Hn := Lib.hid hn
  have HR := Lib.hid hr
  have HX := Lib.hid hx
  have HE := Lib.hid hE
  clear hr hn hx hE
  go_enter Tryd.func18, Tryd.ntmps18
  go_wp2_with (refine wpList_make_full _ rfl _ _ 40 rfl w.heap.size 2 i0 (.int .i64 0) 1 Tryd.underlying40 HI.out.1 HI.out.2.1 HI.out.2.2.1 .i64 .i64 _ _ n rfl rfl rfl rfl (by rw [HI.out.2.2.2]; omega) (by unfold maxLen; omega) (Nat.le_refl _) ?_; intro w2 hown hgrow; have HO := Lib.hid hown; have HG := Lib.hid ((G.refl w).grown hgrow (by simp)); clear hown hgrow)
  obtain ⟨B, HB⟩ : ∃ B, Hid (w.heap.size = B) := ⟨_, rfl⟩
  have hB := HB.out
  have hBl : w.heap.size ≤ B := by omega
  simp only [hB] at HO ⊢
  clear hB
  go_loopw [14] (fun i wr => ∃ (k : Nat) (xs : List Value), k ≤ n ∧ i = .int .i64 (k : Int) ∧ Hid (wr.ownsRow w.heap.size 2 1 (.slice (some ⟨B, 0, none⟩) n n) n xs) ∧ Hid (xs.take k = ((L.map valN).take k).flatMap iv) ∧ Hid ((L.take k).all okN = true) ∧ Hid (G w wr)) (fun i _ => n - (intOf i).toNat)
  case atStart => exact ⟨0, _, Nat.zero_le _, rfl, Lib.hid (by rw [HB.out]; exact HO.out), Lib.hid (by simp), Lib.hid (by simp), HG⟩
  case round =>
    obtain ⟨k, xs, hk, rfl, HO1, HT, HAL, G0⟩ := hrel
    have hk0 : (0 : Int) ≤ (k : Int) := by omega
    by_cases hlt : k < n
    · obtain ⟨b, o, x, rfl, hx, hc⟩ := (HR.out.G G0.out).str (k := k) (by rw [Hn.out]; exact hlt)
      have hlt2 : (k : Int) < (n : Int) := by omega
      have hxs := HX.out x (List.mem_of_getElem? hx)
      have K := Lib.hid (fun (W : World) (g : G w W) => ReadDecimal_any x hxs W (HE.out.G g))
      have HY := Lib.hid (show (L.map valN)[k]? = some (valN x) from map_at hx)
      have HX1 := Lib.hid hx
      obtain ⟨y, HY2⟩ : ∃ y, Hid (valN x = y) := ⟨_, rfl⟩
      cases hok : okN x
      · have H := Lib.hid (show numsR L = ([], false) by unfold numsR; rw [if_neg (by rw [all_false HX1.out hok]; simp)])
        rw [hok, HY2.out] at K
        clear hok hx
        go_wp2_with (go_at_call 30; refine (K.out _ G0.out).mono ?_; rintro e w1 ⟨rfl, g1⟩; have G1 := Lib.hid (G0.out.trans g1); clear g1)
        go_ret2
        exact resb_nil H.out G1.out
      · have HAL2 := Lib.hid (all_snoc HX1.out HAL.out hok)
        rw [hok, HY2.out] at K
        rw [HY2.out] at HY
        clear hok hx
        go_wp2_with (go_at_call 30; refine (K.out _ G0.out).mono ?_; rintro e w1 ⟨rfl, g1⟩; have G1 := Lib.hid (G0.out.trans g1); have HO2 := Lib.hid (own_G HO1.out g1); clear g1; obtain ⟨u, hu⟩ := Option.isSome_iff_exists.1 (own_there HO2.out (o := k) (m := 1) (by omega) 0 (by omega)).1; have hf := own_frozen_of HO2.out k; simp only [Nat.add_zero] at hu)
        go_roundw
        case rel => exact ⟨k + 1, _, by omega, by go_num, Lib.hid (World.ownsRow.stored HO2.out k (.int .i64 y)).1, Lib.hid (flat_put HO2.out.1 hlt HT.out HY.out), HAL2, Lib.hid (G1.out.setCell (p := ⟨B, k, none⟩) hBl (.int .i64 y))⟩
        case measure => first | (simp [intOf]; done) | (simp [intOf]; omega)
    · have hkn : k = n := by omega
      have H := Lib.hid (show numsR L = (L.map valN, true) by unfold numsR; rw [if_pos (all_take_all (by rw [Hn.out]; omega) HAL.out)])
      go_wp2
      go_ret2
      have h1 := HO1.out
      rw [flat_all (M := L.map valN) (f := iv) h1.1 hkn (by rw [List.length_map, Hn.out]) (by rw [Nat.mul_one]; exact HT.out)] at h1
      exact resb_own H.out (by rw [List.length_map, Hn.out]) h1 G0.out
end Go.Proofs.YtckenipmebeopaaDoor
