/-
  Walks: texts cut, numbers read, by both texts.
-/
import Derived.Test.YtecakcgkibemaaaGreatDoorTxtM
import Derived.Test.YtecakcgkibemaaaGreatDoorDecI
import Derived.Test.YtecakcgkibemaaaGreatDoorStrs
import Derived.Test.YtecakcgkibemaaaGreatDoorSlc
import Derived.Test.YtecakcgkibemaaaGreatDoorNames
namespace Go.Proofs.YtecakcgkibemaaaGreatDoor
open Go.RowKit

/-- What the readers need of the library's variables. -/
structure Env (w : World) : Prop where
  tab : TabP w
  most : ∃ m, w.cell? ⟨0, 0, none⟩ = some (.int .i64 m)
  es : ∃ ev, w.cell? ⟨4, 0, none⟩ = some ev ∧ (ev = .nilIface ∨ ∃ te pe, ev = .iface te pe)
  er : ∃ ev, w.cell? ⟨5, 0, none⟩ = some ev ∧ (ev = .nilIface ∨ ∃ te pe, ev = .iface te pe)
theorem Env.G {w w' : World} (h : Env w) (g : G w w') : Env w' :=
  ⟨h.tab.G g, by obtain ⟨m, hm⟩ := h.most; exact ⟨m, g.cell hm⟩, by obtain ⟨m, hm, k⟩ := h.es; exact ⟨m, g.cell hm, k⟩, by obtain ⟨m, hm, k⟩ := h.er; exact ⟨m, g.cell hm, k⟩⟩
theorem ret_nb {a n : Int} {b c : Bool} (h1 : n = a) (h2 : c = b) : Ending.returned (.tuple #[.int .i64 a, .bool b]) = .returned (.tuple #[.int .i64 n, .bool c]) := by rw [h1, h2]
/-- A literal list of texts. -/
theorem rd_lst (w : World) (M : List ByteArray) (T : Nat) : Rd (w.alloc (.cells (M.map Value.string).toArray T)) (some ⟨w.heap.size, 0, none⟩) 1 sv M := fun _ => by
  refine ⟨w.heap.size, 0, rfl, fun i x j u hi hj => ?_⟩
  match j, hj with
  | 0, hj =>
    simp only [sv, List.getElem?_cons_zero, Option.some.injEq] at hj
    subst hj
    rw [World.cell?_alloc_at _ _ _ _ rfl]
    simp [hi]
  | j + 1, hj => simp [sv] at hj
theorem lst_own {w w' : World} {M : List ByteArray} {v : Value} (ho : w'.ownsRow w.heap.size 9 1 v M.length (M.flatMap sv)) (hg : G w w') : Lst w 9 1 sv M (.returned v) w' := ⟨v, rfl, ho, hg⟩

theorem own_up {w : World} {b c T sz n : Nat} {v : Value} {xs : List Value} (h : w.ownsRow b T sz v n xs) (hc : c ≤ b) : w.ownsRow c T sz v n xs := by
  refine ⟨h.1, ?_⟩
  rcases h.2 with h1 | ⟨g, cap, cur, h1, h2, h3⟩
  · exact .inl h1
  · exact .inr ⟨g, cap, cur, h1, Nat.le_trans hc h2, h3⟩
theorem parsed_G {w w' : World} {T : Nat} (h : w' = w ∨ ∃ t, w' = Lib.bytesWorld w T t) : G w w' := by
  rcases h with rfl | ⟨t, rfl⟩
  · exact G.refl _
  · exact Go.Joins.below_bytesWorld w.heap.size w T t (Nat.le_refl _)

set_option maxRecDepth 20000 in
set_option maxHeartbeats 4000000 in
theorem ReadDecimal_any (s : ByteArray) (hs : s.size ≤ 4194304) (w : World) (hE : Env w) :
    Calls Tryz.prog 35 #[.string s] w fun e w' => e = .returned (.tuple #[.int .i64 (valN s), .bool (okN s)]) ∧ G w w' := by
  have HE := Lib.hid hE
  clear hE
  obtain ⟨d, HD⟩ : ∃ d, Hid (mkB (digsOf s.data.toList) = d) := ⟨_, rfl⟩
  have hdl : d.size = (digsOf s.data.toList).length := by rw [← HD.out, mkB_size]
  have KT := Lib.hid (fun (W : World) => show Calls Tryz.prog 49 #[.string s, .string ⟨#[45]⟩] W fun e w' => e = .returned (.string d) ∧ w' = W by
    rw [← HD.out]; exact Tryz.strings_TrimPrefix s ⟨#[45]⟩ W)
  have hbad : ¬ (1 ≤ (digsOf s.data.toList).length ∧ (digsOf s.data.toList).length ≤ 18) → okN s = false ∧ valN s = 0 := fun h => okN_no (num_none (s := s) fun n hn => h hn.digs)
  by_cases h1 : d.size < 1
  · have H := Lib.hid (hbad (by omega))
    have h1' : (d.size : Int) < 1 := by omega
    clear hbad hdl
    go_enter Tryz.func35, Tryz.ntmps35
    go_wp2_with (go_at_call 49; refine (KT.out _).mono ?_; rintro e w' ⟨rfl, rfl⟩)
    go_ret2
    exact ⟨ret_nb H.out.2 H.out.1, G.refl _⟩
  by_cases h2 : 18 < d.size
  · have H := Lib.hid (hbad (by omega))
    have h2' : 18 < (d.size : Int) := by omega
    clear hbad hdl
    go_enter Tryz.func35, Tryz.ntmps35
    go_wp2_with (go_at_call 49; refine (KT.out _).mono ?_; rintro e w' ⟨rfl, rfl⟩)
    go_ret2
    exact ⟨ret_nb H.out.2 H.out.1, G.refl _⟩
  have h1' : 1 ≤ (d.size : Int) := by omega
  have h2' : (d.size : Int) ≤ 18 := by omega
  have HL := Lib.hid (show (digsOf s.data.toList).length ≤ 18 by omega)
  clear hbad hdl
  cases hp : Lib.parseIntB 64 s.data.toList with
  | ok v =>
    have KP := Lib.hid (fun (W : World) => Tryz.strconv_ParseInt_10_at64_ok s (by omega) v hp W)
    have hvb := Lib.parseIntB_bounds hp
    have hv0 : -9223372036854775808 ≤ v := by have := hvb.1; simpa using this
    have hv1 : v ≤ 9223372036854775807 := by have h := hvb.2; simp at h; omega
    clear hvb
    have KD := Lib.hid (fun (W : World) (g : G w W) => Decimal_any v hv0 hv1 W (HE.out.tab.G g))
    by_cases he : dec v = s
    · have HS := Lib.hid (okN_of (num_of (spells_iff hv0 hv1 HL.out he)))
      have hes : (s.toList == s.toList) = true := by simp
      rw [he] at KD
      clear hp he
      go_enter Tryz.func35, Tryz.ntmps35
      go_wp2_with (first | (go_at_call 49; refine (KT.out _).mono ?_; rintro e w' ⟨rfl, rfl⟩) | (go_at_call 50; refine (KP.out _).mono ?_; rintro e w1 ⟨rfl, hw⟩; have G1 := Lib.hid (parsed_G hw); clear hw) | (go_at_call 20; refine (KD.out _ G1.out).mono ?_; rintro e w2 ⟨rfl, g2⟩; have G2 := Lib.hid (G1.out.trans g2); clear g2))
      go_ret2
      exact ⟨ret_nb HS.out.2 HS.out.1, G2.out⟩
    · have HS := Lib.hid (okN_no (num_none (s := s) fun n hn => he (by
        have := hn.parse
        rw [hp] at this
        injection this with this
        subst this
        exact hn.2.2)))
      have hes : ((dec v).toList == s.toList) = false := by
        simp only [beq_eq_false_iff_ne, ne_eq]
        exact fun e => he (by rw [ByteArray.toList_eq, ByteArray.toList_eq] at e; rw [← mkB_of (dec v), e, mkB_of])
      obtain ⟨t, HT⟩ : ∃ t, Hid (dec v = t) := ⟨_, rfl⟩
      rw [HT.out] at KD hes
      clear hp he
      go_enter Tryz.func35, Tryz.ntmps35
      go_wp2_with (first | (go_at_call 49; refine (KT.out _).mono ?_; rintro e w' ⟨rfl, rfl⟩) | (go_at_call 50; refine (KP.out _).mono ?_; rintro e w1 ⟨rfl, hw⟩; have G1 := Lib.hid (parsed_G hw); clear hw) | (go_at_call 20; refine (KD.out _ G1.out).mono ?_; rintro e w2 ⟨rfl, g2⟩; have G2 := Lib.hid (G1.out.trans g2); clear g2))
      go_ret2
      exact ⟨ret_nb HS.out.2 HS.out.1, G2.out⟩
  | range =>
    obtain ⟨ev, hev, hvv⟩ := HE.out.er
    have KP := Lib.hid (Tryz.strconv_ParseInt_10_at64_range s (by omega) hp ev w hev hvv)
    have HS := Lib.hid (okN_no (num_none (s := s) fun n hn => by have := hn.parse; rw [hp] at this; cases this))
    clear hp hev hvv
    go_enter Tryz.func35, Tryz.ntmps35
    go_wp2_with (first | (go_at_call 49; refine (KT.out _).mono ?_; rintro e w' ⟨rfl, rfl⟩) | (go_at_call 50; refine KP.out.mono ?_; rintro e w1 ⟨N, rfl, hN, hb, g1⟩; have G1 := Lib.hid g1; clear g1 hb))
    go_ret2
    exact ⟨ret_nb HS.out.2 HS.out.1, G1.out⟩
  | _ =>
    obtain ⟨ev, hev, hvv⟩ := HE.out.es
    have KP := Lib.hid (Tryz.strconv_ParseInt_10_at64_syntax s (by omega) hp ev w hev hvv)
    have HS := Lib.hid (okN_no (num_none (s := s) fun n hn => by have := hn.parse; rw [hp] at this; cases this))
    clear hp hev hvv
    go_enter Tryz.func35, Tryz.ntmps35
    go_wp2_with (first | (go_at_call 49; refine (KT.out _).mono ?_; rintro e w' ⟨rfl, rfl⟩) | (go_at_call 50; refine KP.out.mono ?_; rintro e w1 ⟨N, rfl, hN, hb, g1⟩; have G1 := Lib.hid g1; clear g1 hb))
    go_ret2
    exact ⟨ret_nb HS.out.2 HS.out.1, G1.out⟩

set_option maxRecDepth 20000 in
set_option maxHeartbeats 4000000 in
theorem SplitWords_any (s : ByteArray) (hs : s.size ≤ 4194304) (w : World) (hE : Env w) :
    Calls Tryz.prog 16 #[.string s] w (Lst w 9 1 sv (wordsS s)) := by
  obtain ⟨i0, hi, hz0, hz1, hz2⟩ := info_parts infoString
  have HI := Lib.hid (And.intro hi (And.intro hz0 (And.intro hz1 hz2)))
  clear hi hz0 hz1 hz2
  obtain ⟨m, hm⟩ := hE.most
  have K := Lib.hid (Tryz.strings_Split s ⟨#[32]⟩ m w (by omega) hm (by decide))
  rw [splitB_S, countB_S] at K
  have hlen := (splitS_len 32 s).2
  have HW := Lib.hid (show wordsS s = (splitS 32 s).filter fun x => !(x.size == 0) from rfl)
  clear hE hm
  obtain ⟨P, HP⟩ : ∃ P, Hid (splitS 32 s = P) := ⟨_, rfl⟩
  rw [HP.out] at K hlen HW
  obtain ⟨n, Hn⟩ : ∃ n, Hid (P.length = n) := ⟨_, rfl⟩
  rw [Hn.out] at K hlen
  have HR := Lib.hid (rd_lst w P 9)
  have GA := Lib.hid ((G.refl w).alloc (.cells (P.map Value.string).toArray 9))
  go_enter Tryz.func16, Tryz.ntmps16
  go_wp2_with (go_at_call 15; refine K.out.mono ?_; rintro e w1 ⟨rfl, rfl⟩)
  clear K
  obtain ⟨w1, HW1⟩ : ∃ w1, Hid (w.alloc (.cells (P.map Value.string).toArray 9) = w1) := ⟨_, rfl⟩
  have hw1 := HW1.out
  rw [hw1] at HR GA
  rw [hw1]
  obtain ⟨B, HB⟩ : ∃ B, Hid (w.heap.size = B) := ⟨_, rfl⟩
  clear hw1
  go_loopw [3, 9] (fun v i wr => ∃ (k : Nat) (M : List ByteArray), k ≤ n ∧ i = .int .i64 (k : Int) ∧ M.length ≤ k ∧ Hid ((P.take k).filter (fun x => !(x.size == 0)) = M) ∧ Hid (wr.ownsRow w1.heap.size 9 1 v M.length (M.flatMap sv)) ∧ Hid (G w1 wr)) (fun _ i _ => n - (intOf i).toNat)
  case atStart => exact ⟨0, [], Nat.zero_le _, rfl, Nat.le_refl _, Lib.hid rfl, Lib.hid (World.ownsRow_nil _ _ _ _), Lib.hid (G.refl _)⟩
  case round =>
    obtain ⟨k, M, hk, rfl, hM, HF, HO, G0⟩ := hrel
    have hsz := G0.out.size
    have hsz1 := GA.out.size
    by_cases hlt : k < n
    · obtain ⟨b, o, x, hbo, hx, hc⟩ := (HR.out.G G0.out).str (k := k) (by rw [Hn.out]; exact hlt)
      simp only [Option.some.injEq, Addr.mk.injEq, and_true] at hbo
      obtain ⟨rfl, rfl⟩ := hbo
      rw [Nat.zero_add] at hc
      have HS := Lib.hid (show (P.take (k + 1)).filter (fun x => !(x.size == 0)) = M ++ (if x.size = 0 then [] else [x]) by
        rw [take_snoc hx, List.filter_append, HF.out]
        by_cases h0 : x.size = 0 <;> simp [h0])
      have hlt2 : (k : Int) < (n : Int) := by omega
      have hk0 : (0 : Int) ≤ (k : Int) := by omega
      clear hx
      by_cases h0 : x.size = 0
      · have he : x = ⟨#[]⟩ := by
          cases x with
          | mk d => congr; exact Array.eq_empty_of_size_eq_zero h0
        subst he
        have HS2 := Lib.hid (show (P.take (k + 1)).filter (fun x => !(x.size == 0)) = M by rw [HS.out, if_pos h0, List.append_nil])
        go_wp2
        go_roundw
        case rel => exact ⟨k + 1, M, by omega, by go_num, by omega, HS2, HO, G0⟩
        case measure => first | (simp [intOf]; done) | (simp [intOf]; omega)
      · have HS2 := Lib.hid (show (P.take (k + 1)).filter (fun x => !(x.size == 0)) = M ++ [x] by rw [HS.out, if_neg h0])
        have hne : (x.toList == []) = false := by
          rw [ByteArray.toList_eq]
          cases hl : x.data.toList with
          | nil => exfalso; have := size_data x; rw [hl] at this; exact h0 this.symm
          | cons => rfl
        have hne2 : x.toList.isEmpty = false := by
          rw [ByteArray.toList_eq]
          cases hl : x.data.toList with
          | nil => exfalso; have := size_data x; rw [hl] at this; exact h0 this.symm
          | cons => rfl
        go_wp2_with (at_builtin; refine wpList_append_own _ rfl (.tmp 15) (.tmp 17) 36 rfl (w1.heap.size) 9 i0 (.string ⟨#[]⟩) 1 16 Tryz.underlying36 HI.out.1 HI.out.2.1 HI.out.2.2.1 HI.out.2.2.2 rfl (by decide) _ M.length _ rfl (HO.out.alloc _) ⟨wr.heap.size, 0, none⟩ 1 1 (sv x) rfl rfl (block_news _ (sv x) _) (str_oneCell _) ?c1 ?c2 ?c3 ?_)
        case c1 => unfold maxLen; omega
        case c2 => omega
        case c3 => first | omega | (simp; omega)
        intro v' w4 hown hgrow _
        have gx := (G.refl wr).alloc (.cells (sv x).toArray 9)
        have O4 := Lib.hid (show w4.ownsRow w1.heap.size 9 1 v' (M ++ [x]).length ((M ++ [x]).flatMap sv) by rw [List.length_append, List.flatMap_append]; simpa using hown)
        have G4 := Lib.hid ((G0.out.trans gx).grown hgrow (own_block_of HO.out))
        clear hown hgrow gx
        go_wp2
        go_roundw
        case rel => exact ⟨k + 1, M ++ [x], by omega, by go_num, by simp; omega, HS2, O4, G4⟩
        case measure => first | (simp [intOf]; done) | (simp [intOf]; omega)
    · have hkn : P.take k = P := List.take_of_length_le (by rw [Hn.out]; omega)
      rw [hkn] at HF
      have HF2 := Lib.hid (show M = wordsS s by rw [HW.out]; exact HF.out.symm)
      go_wp2
      go_ret
      rw [← HF2.out]
      exact lst_own (own_up HO.out GA.out.size) (GA.out.trans G0.out)

/-- A result: a list of the call's own and whether it is one. -/
def ResB {α : Type} (w : World) (T sz : Nat) (f : α → List Value) (R : List α × Bool) (e : Ending) (w' : World) : Prop :=
  ∃ A c, e = .returned (.tuple #[.slice A R.1.length c, .bool R.2]) ∧ G w w' ∧ w'.ownsRow w.heap.size T sz (.slice A R.1.length c) R.1.length (R.1.flatMap f)
theorem resb_nil {α : Type} {w w' : World} {T sz : Nat} {f : α → List Value} {R : List α × Bool} {b : Bool} (h : R = ([], b)) (hg : G w w') : ResB w T sz f R (.returned (.tuple #[.slice none 0 0, .bool b])) w' := by
  subst h
  exact ⟨none, 0, rfl, hg, World.ownsRow_nil _ _ _ _⟩
theorem resb_own {α : Type} {w w' : World} {T sz : Nat} {f : α → List Value} {R : List α × Bool} {M : List α} {v : Value} {n : Nat} {b : Bool} (h : R = (M, b)) (hn : M.length = n) (ho : w'.ownsRow w.heap.size T sz v n (M.flatMap f)) (hg : G w w') : ResB w T sz f R (.returned (.tuple #[v, .bool b])) w' := by
  subst h
  subst hn
  rcases ho.2 with ⟨hv, hn0⟩ | ⟨g, cap, cur, hv, _⟩
  · rw [hv, hn0] at ho
    rw [hv]
    exact ⟨none, 0, by show Ending.returned _ = Ending.returned _; simp only [hn0], hg, by simp only [hn0]; exact ho⟩
  · rw [hv] at ho
    rw [hv]
    exact ⟨_, _, rfl, hg, ho⟩
theorem infoInt64 : (Tryz.prog.info? 2).map (fun i => (i.zero, i.size, i.bytes)) = some (some (.int .i64 0), 1, 8) := by kernel_rfl
set_option maxRecDepth 20000 in
set_option maxHeartbeats 4000000 in
theorem readNumbers_any (A : Option Addr) (n c : Nat) (L : List ByteArray) (w : World) (hr : Rd w A 1 sv L) (hn : L.length = n) (hb : n ≤ 4194304) (hx : ∀ x ∈ L, x.size ≤ 4194304) (hE : Env w) :
    Calls Tryz.prog 17 #[.slice A n c] w (ResB w 2 1 iv (numsR L)) := by
  obtain ⟨i0, hi, hz0, hz1, hz2⟩ := info_parts infoInt64
  have HI := Lib.hid (And.intro hi (And.intro hz0 (And.intro hz1 hz2)))
  clear hi hz0 hz1 hz2
  have Hn := Lib.hid hn
  have HR := Lib.hid hr
  have HX := Lib.hid hx
  have HE := Lib.hid hE
  clear hr hn hx hE
  go_enter Tryz.func17, Tryz.ntmps17
  go_wp2_with (refine wpList_make_full _ rfl _ _ 45 rfl w.heap.size 2 i0 (.int .i64 0) 1 Tryz.underlying45 HI.out.1 HI.out.2.1 HI.out.2.2.1 .i64 .i64 _ _ n rfl rfl rfl rfl (by rw [HI.out.2.2.2]; omega) (by unfold maxLen; omega) (Nat.le_refl _) ?_; intro w2 hown hgrow; have HO := Lib.hid hown; have HG := Lib.hid ((G.refl w).grown hgrow (by simp)); clear hown hgrow)
  obtain ⟨B, HB⟩ : ∃ B, Hid (w.heap.size = B) := ⟨_, rfl⟩
  have hB := HB.out
  have hBl : w.heap.size ≤ B := by omega
  simp only [hB] at HO ⊢
  clear hB
  go_loopw [14] (fun i wr => ∃ (k : Nat) (xs : List Value), k ≤ n ∧ i = .int .i64 (k : Int) ∧ Hid (wr.ownsRow w.heap.size 2 1 (.slice (some ⟨B, 0, none⟩) n n) n xs) ∧ Hid (xs.take k = ((L.map valN).take k).flatMap iv) ∧ Hid ((L.take k).all okN = true) ∧ Hid (G w wr)) (fun i _ => n - (intOf i).toNat)
  case atStart => exact ⟨0, _, Nat.zero_le _, rfl, Lib.hid (by rw [HB.out]; exact HO.out), Lib.hid (by simp), Lib.hid (by simp), HG⟩
  case round =>
    obtain ⟨k, xs, hk, rfl, HO1, HT, HAL, G0⟩ := hrel
    have hk0 : (0 : Int) ≤ (k : Int) := by omega
    by_cases hlt : k < n
    · obtain ⟨b, o, x, rfl, hx, hc⟩ := (HR.out.G G0.out).str (k := k) (by rw [Hn.out]; exact hlt)
      have hlt2 : (k : Int) < (n : Int) := by omega
      have hxs := HX.out x (List.mem_of_getElem? hx)
      have K := Lib.hid (fun (W : World) (g : G w W) => ReadDecimal_any x hxs W (HE.out.G g))
      have HY := Lib.hid (show (L.map valN)[k]? = some (valN x) from map_at hx)
      have HX1 := Lib.hid hx
      obtain ⟨y, HY2⟩ : ∃ y, Hid (valN x = y) := ⟨_, rfl⟩
      cases hok : okN x
      · have H := Lib.hid (show numsR L = ([], false) by unfold numsR; rw [if_neg (by rw [all_false HX1.out hok]; simp)])
        rw [hok, HY2.out] at K
        clear hok hx
        go_wp2_with (go_at_call 35; refine (K.out _ G0.out).mono ?_; rintro e w1 ⟨rfl, g1⟩; have G1 := Lib.hid (G0.out.trans g1); clear g1)
        go_ret2
        exact resb_nil H.out G1.out
      · have HAL2 := Lib.hid (all_snoc HX1.out HAL.out hok)
        rw [hok, HY2.out] at K
        rw [HY2.out] at HY
        clear hok hx
        go_wp2_with (go_at_call 35; refine (K.out _ G0.out).mono ?_; rintro e w1 ⟨rfl, g1⟩; have G1 := Lib.hid (G0.out.trans g1); have HO2 := Lib.hid (own_G HO1.out g1); clear g1; obtain ⟨u, hu⟩ := Option.isSome_iff_exists.1 (own_there HO2.out (o := k) (m := 1) (by omega) 0 (by omega)).1; have hf := own_frozen_of HO2.out k; simp only [Nat.add_zero] at hu)
        go_roundw
        case rel => exact ⟨k + 1, _, by omega, by go_num, Lib.hid (World.ownsRow.stored HO2.out k (.int .i64 y)).1, Lib.hid (flat_put HO2.out.1 hlt HT.out HY.out), HAL2, Lib.hid (G1.out.setCell (p := ⟨B, k, none⟩) hBl (.int .i64 y))⟩
        case measure => first | (simp [intOf]; done) | (simp [intOf]; omega)
    · have hkn : k = n := by omega
      have H := Lib.hid (show numsR L = (L.map valN, true) by unfold numsR; rw [if_pos (all_take_all (by rw [Hn.out]; omega) HAL.out)])
      go_wp2
      go_ret2
      have h1 := HO1.out
      rw [flat_all (M := L.map valN) (f := iv) h1.1 hkn (by rw [List.length_map, Hn.out]) (by rw [Nat.mul_one]; exact HT.out)] at h1
      exact resb_own H.out (by rw [List.length_map, Hn.out]) h1 G0.out
end Go.Proofs.YtecakcgkibemaaaGreatDoor
