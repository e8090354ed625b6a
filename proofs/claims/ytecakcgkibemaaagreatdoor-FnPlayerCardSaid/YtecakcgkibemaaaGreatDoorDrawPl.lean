/-
  Walks: cues and players drawn from bytes: they are valid.
-/
import Derived.Test.YtecakcgkibemaaaGreatDoorPutCue
import Derived.Test.YtecakcgkibemaaaGreatDoorSrcText
import Derived.Test.YtecakcgkibemaaaGreatDoorPlayer
import Derived.Test.YtecakcgkibemaaaGreatDoorEnd
namespace Go.Proofs.YtecakcgkibemaaaGreatDoor
open Go.RowKit

def AddE (w : World) (n : Nat) (e : Ending) (w' : World) : Prop := ∃ (A' : Option Addr) (c' : Nat) (M : List SCue) (code : Int), e = .returned (.tuple #[.slice A' M.length c', .int .i64 code]) ∧ G w w' ∧ w'.ownsRow w.heap.size 49 6 (.slice A' M.length c') M.length (M.flatMap cCue) ∧ (code = 0 → vcus M = true ∧ 0 < M.length ∧ M.length ≤ n + 1)
theorem addE_no {w w' : World} {n : Nat} {code : Int} (hc : code ≠ 0) (hg : G w w') : AddE w n (.returned (.tuple #[.slice none 0 0, .int .i64 code])) w' :=
  ⟨none, 0, [], code, rfl, hg, World.ownsRow_nil _ _ _ _, fun h => absurd h hc⟩
theorem own_val2 {w : World} {B T sz n : Nat} {v : Value} {xs : List Value} (h : w.ownsRow B T sz v n xs) : ∃ A c, v = .slice A n c := by
  rcases h.2 with ⟨hv, hn⟩ | ⟨g, cap, cur, hv, _⟩
  · exact ⟨none, 0, by rw [hv, hn]⟩
  · exact ⟨_, _, hv⟩
theorem vcuB_nm2 {x : SCue} (h : vcuB x = true) : x.Id.size ≤ 100 ∧ x.Target.size ≤ 100 := by
  have k := vcuB_names h
  have h1 := nameB_size k.1
  have h2 := nameB_size k.2
  omega
theorem vcus_wfs {L : List SCue} (h : vcus L = true) : ∀ x ∈ L, WfCue x := fun x hx => by
  obtain ⟨k, hk⟩ := List.mem_iff_getElem?.1 hx
  have := vcuB_nm2 (vcus_at h hk)
  exact ⟨by unfold maxLen; omega, by unfold maxLen; omega⟩
theorem own_some2 {w : World} {B T sz n c : Nat} {A : Option Addr} {xs : List Value} (h : w.ownsRow B T sz (.slice A n c) n xs) (hn : 0 < n) : ∃ b, A = some ⟨b, 0, none⟩ := by
  rcases h.2 with ⟨_, h0⟩ | ⟨g, cap, cur, e, _⟩
  · omega
  · simp only [Value.slice.injEq] at e
    exact ⟨g, e.1⟩
set_option maxRecDepth 20000 in
set_option maxHeartbeats 8000000 in
theorem sAddCue_any (b n c : Nat) (L : List SCue) (x : SCue) (w : World) (hr : Rd w (some ⟨b, 0, none⟩) 6 cCue L) (hn : L.length = n) (hcap : n ≤ c) (hv : vcus L = true) (hx : WfCue x) :
    Calls Tryz.prog 43 #[.slice (some ⟨b, 0, none⟩) n c, .agg #[.string x.Id, .int .i64 x.Time, .int .i64 x.Length, .string x.Target, .int .i64 x.Action, .int .i64 x.Value]] w (AddE w n) := by
  have hn32 := vcus_len hv
  rw [hn] at hn32
  have K := Lib.hid (l13Ok_any (some ⟨b, 0, none⟩) n c L (w.alloc (.cells #[.string x.Id, .int .i64 x.Time, .int .i64 x.Length, .string x.Target, .int .i64 x.Action, .int .i64 x.Value] 49)) (hr.G ((G.refl w).alloc _)) hn (by omega) (vcus_wfs hv))
  have C0 := Lib.hid (show (w.alloc (.cells #[.string x.Id, .int .i64 x.Time, .int .i64 x.Length, .string x.Target, .int .i64 x.Action, .int .i64 x.Value] 49)).cell? ⟨w.heap.size, 0, none⟩ = some (.string x.Id) from World.cell?_alloc_at _ _ _ _ rfl)
  have C1 := Lib.hid (show (w.alloc (.cells #[.string x.Id, .int .i64 x.Time, .int .i64 x.Length, .string x.Target, .int .i64 x.Action, .int .i64 x.Value] 49)).cell? ⟨w.heap.size, 1, none⟩ = some (.int .i64 x.Time) from World.cell?_alloc_at _ _ _ _ rfl)
  have C2 := Lib.hid (show (w.alloc (.cells #[.string x.Id, .int .i64 x.Time, .int .i64 x.Length, .string x.Target, .int .i64 x.Action, .int .i64 x.Value] 49)).cell? ⟨w.heap.size, 2, none⟩ = some (.int .i64 x.Length) from World.cell?_alloc_at _ _ _ _ rfl)
  have C3 := Lib.hid (show (w.alloc (.cells #[.string x.Id, .int .i64 x.Time, .int .i64 x.Length, .string x.Target, .int .i64 x.Action, .int .i64 x.Value] 49)).cell? ⟨w.heap.size, 3, none⟩ = some (.string x.Target) from World.cell?_alloc_at _ _ _ _ rfl)
  have C4 := Lib.hid (show (w.alloc (.cells #[.string x.Id, .int .i64 x.Time, .int .i64 x.Length, .string x.Target, .int .i64 x.Action, .int .i64 x.Value] 49)).cell? ⟨w.heap.size, 4, none⟩ = some (.int .i64 x.Action) from World.cell?_alloc_at _ _ _ _ rfl)
  have C5 := Lib.hid (show (w.alloc (.cells #[.string x.Id, .int .i64 x.Time, .int .i64 x.Length, .string x.Target, .int .i64 x.Action, .int .i64 x.Value] 49)).cell? ⟨w.heap.size, 5, none⟩ = some (.int .i64 x.Value) from World.cell?_alloc_at _ _ _ _ rfl)
  have GB := Lib.hid ((G.refl w).alloc (.cells #[.string x.Id, .int .i64 x.Time, .int .i64 x.Length, .string x.Target, .int .i64 x.Action, .int .i64 x.Value] 49))
  have KO := Lib.hid (fun (W : World) => l13One_any x hx w.heap.size 0 W)
  have KF := Lib.hid (fun (W : World) (g : G w W) => l13Find_any (some ⟨b, 0, none⟩) n c L x.Id W (hr.G g) hn (by omega))
  have KP := Lib.hid (fun (W : World) (g : G w W) => l13Put_any b n c L x W (hr.G g) hn (by omega) hcap)
  have Hn := Lib.hid hn
  have HV := Lib.hid hv
  rw [hv] at K
  clear hr hn hx hv
  cases hvx : vcuB x
  · rw [hvx] at KO
    clear hvx
    go_enter Tryz.func43, Tryz.ntmps43
    go_wp2_with (first | (go_at_call 26; (with_reducible refine K.out.mono ?_); rintro e w1 ⟨rfl, g1⟩; have G1 := Lib.hid (GB.out.trans g1); have d0 := g1.cell C0.out; have d1 := g1.cell C1.out; have d2 := g1.cell C2.out; have d3 := g1.cell C3.out; have d4 := g1.cell C4.out; have d5 := g1.cell C5.out; clear g1) | (go_at_call 39; (with_reducible refine (KO.out _ d0 d1 d2 d3 d4 d5).mono ?_); rintro e w2 ⟨rfl, g2⟩; have G2 := Lib.hid (G1.out.trans g2); replace d0 := g2.cell d0; replace d1 := g2.cell d1; replace d2 := g2.cell d2; replace d3 := g2.cell d3; replace d4 := g2.cell d4; replace d5 := g2.cell d5; clear g2))
    go_ret2
    exact addE_no (by decide) G2.out
  rw [hvx] at KO
  have HVX := Lib.hid hvx
  clear hvx
  rcases idxOf_cases (nmC x.Id) L with ⟨hi, hany⟩ | ⟨k, y, hi, hy, hp, hany⟩
  · rw [hi] at KF
    have HANY := Lib.hid hany
    clear hi hany
    by_cases h32 : n = 32
    · have hd : ((n : Int) == 32) = true := by simp [h32]
      clear h32
      go_enter Tryz.func43, Tryz.ntmps43
      go_wp2_with (first | (go_at_call 26; (with_reducible refine K.out.mono ?_); rintro e w1 ⟨rfl, g1⟩; have G1 := Lib.hid (GB.out.trans g1); have d0 := g1.cell C0.out; have d1 := g1.cell C1.out; have d2 := g1.cell C2.out; have d3 := g1.cell C3.out; have d4 := g1.cell C4.out; have d5 := g1.cell C5.out; clear g1) | (go_at_call 39; (with_reducible refine (KO.out _ d0 d1 d2 d3 d4 d5).mono ?_); rintro e w2 ⟨rfl, g2⟩; have G2 := Lib.hid (G1.out.trans g2); replace d0 := g2.cell d0; replace d1 := g2.cell d1; replace d2 := g2.cell d2; replace d3 := g2.cell d3; replace d4 := g2.cell d4; replace d5 := g2.cell d5; clear g2) | (go_at_call 40; (with_reducible refine (KF.out _ G2.out).mono ?_); rintro e w3 ⟨rfl, rfl⟩))
      go_ret2
      exact addE_no (by decide) G2.out
    · have hd : ((n : Int) == 32) = false := by simp; omega
      have hn31 : n ≤ 31 := by omega
      clear h32
      go_enter Tryz.func43, Tryz.ntmps43
      go_wp2_with (first | (go_at_call 26; (with_reducible refine K.out.mono ?_); rintro e w1 ⟨rfl, g1⟩; have G1 := Lib.hid (GB.out.trans g1); have d0 := g1.cell C0.out; have d1 := g1.cell C1.out; have d2 := g1.cell C2.out; have d3 := g1.cell C3.out; have d4 := g1.cell C4.out; have d5 := g1.cell C5.out; clear g1) | (go_at_call 39; (with_reducible refine (KO.out _ d0 d1 d2 d3 d4 d5).mono ?_); rintro e w2 ⟨rfl, g2⟩; have G2 := Lib.hid (G1.out.trans g2); replace d0 := g2.cell d0; replace d1 := g2.cell d1; replace d2 := g2.cell d2; replace d3 := g2.cell d3; replace d4 := g2.cell d4; replace d5 := g2.cell d5; clear g2) | (go_at_call 40; (with_reducible refine (KF.out _ G2.out).mono ?_); rintro e w3 ⟨rfl, rfl⟩) | (go_at_call 58; (with_reducible refine (KP.out _ G2.out).mono ?_); rintro e w4 ⟨k, v, rfl, hk, hlo, hhi, g4, o4⟩; have G4 := Lib.hid (G2.out.trans g4); have O4 := Lib.hid o4; have HLO := Lib.hid hlo; have HHI := Lib.hid hhi; have z2 := G2.out.size; clear g4 o4 hlo hhi))
      go_ret2
      have hl : (putL L x k).length = n + 1 := by rw [putL_len (by rw [Hn.out]; exact hk), Hn.out]
      have hok := vcus_put HV.out (by rw [Hn.out]; exact hn31) HVX.out HANY.out (by rw [Hn.out]; exact hk) HLO.out HHI.out
      obtain ⟨A', c', rfl⟩ := own_val2 O4.out
      exact (show AddE w n (.returned (.tuple #[.slice A' (n + 1) c', .int .i64 0])) _ from ⟨A', c', putL L x k, 0, by rw [hl], G4.out, by rw [hl]; exact O4.out.mono z2, fun _ => ⟨hok, by omega, by omega⟩⟩)
  · rw [hi] at KF
    have hk0 : (0 : Int) ≤ (k : Int) := by omega
    have hk1 : decide ((0 : Int) ≤ (k : Int)) = true := by simp
    clear hi hy hp hany
    go_enter Tryz.func43, Tryz.ntmps43
    go_wp2_with (first | (go_at_call 26; (with_reducible refine K.out.mono ?_); rintro e w1 ⟨rfl, g1⟩; have G1 := Lib.hid (GB.out.trans g1); have d0 := g1.cell C0.out; have d1 := g1.cell C1.out; have d2 := g1.cell C2.out; have d3 := g1.cell C3.out; have d4 := g1.cell C4.out; have d5 := g1.cell C5.out; clear g1) | (go_at_call 39; (with_reducible refine (KO.out _ d0 d1 d2 d3 d4 d5).mono ?_); rintro e w2 ⟨rfl, g2⟩; have G2 := Lib.hid (G1.out.trans g2); replace d0 := g2.cell d0; replace d1 := g2.cell d1; replace d2 := g2.cell d2; replace d3 := g2.cell d3; replace d4 := g2.cell d4; replace d5 := g2.cell d5; clear g2) | (go_at_call 40; (with_reducible refine (KF.out _ G2.out).mono ?_); rintro e w3 ⟨rfl, rfl⟩))
    go_ret2
    exact addE_no (by decide) G2.out

set_option maxRecDepth 20000 in
set_option maxHeartbeats 8000000 in
theorem l13DrawOne_any (w : World) (s : Nat) (A : Option Addr) (n c : Nat) (L : List Int) (m : Nat) (h : Src w s A n c L m) (hm : m + 12 ≤ 1000000) :
    Calls Tryz.prog 44 #[.pointer (some ⟨s, 0, none⟩)] w (Drawn w s A n c L (m + 12) fun v => ∃ x : SCue, WfCue x ∧ v = .agg #[.string x.Id, .int .i64 x.Time, .int .i64 x.Length, .string x.Target, .int .i64 x.Action, .int .i64 x.Value]) := by
  have hsl := h.lt
  have X0 := Lib.hid (Gx.of_G (G.refl w) (some s))
  have H0 := Lib.hid h
  have z0 : w.heap.size ≤ w.heap.size := Nat.le_refl _
  clear h
  have Oq := Lib.hid (own_new (w := w) (base := w.heap.size) (n := 1) (cap := 1) (size := 6) (e := 49) (cur := #[.string ⟨#[]⟩, .int .i64 0, .int .i64 0, .string ⟨#[]⟩, .int .i64 0, .int .i64 0]) (by first | omega | (simp; omega) | simp) (by decide) (by decide) rfl)
  replace X0 := Lib.hid (Gx.trans X0.out (Gx.of_G ((G.refl (w)).alloc (.cells #[.string ⟨#[]⟩, .int .i64 0, .int .i64 0, .string ⟨#[]⟩, .int .i64 0, .int .i64 0] 49)) (some s)))
  replace H0 := Lib.hid (H0.out.g ((G.refl (w)).alloc (.cells #[.string ⟨#[]⟩, .int .i64 0, .int .i64 0, .string ⟨#[]⟩, .int .i64 0, .int .i64 0] 49)))
  go_enter Tryz.func44, Tryz.ntmps44
  go_wp2_with fail
  have gx := (G.refl (w.alloc (.cells #[.string ⟨#[]⟩, .int .i64 0, .int .i64 0, .string ⟨#[]⟩, .int .i64 0, .int .i64 0] 49))).alloc (.cells #[.string ⟨#[97]⟩, .string ⟨#[98]⟩, .string ⟨#[99]⟩, .string ⟨#[100]⟩, .string ⟨#[101]⟩, .string ⟨#[102]⟩, .string ⟨#[103]⟩, .string ⟨#[104]⟩, .string ⟨#[105]⟩, .string ⟨#[107]⟩] 9)
  have HRL := Lib.hid (show Rd ((w.alloc (.cells #[.string ⟨#[]⟩, .int .i64 0, .int .i64 0, .string ⟨#[]⟩, .int .i64 0, .int .i64 0] 49)).alloc (.cells #[.string ⟨#[97]⟩, .string ⟨#[98]⟩, .string ⟨#[99]⟩, .string ⟨#[100]⟩, .string ⟨#[101]⟩, .string ⟨#[102]⟩, .string ⟨#[103]⟩, .string ⟨#[104]⟩, .string ⟨#[105]⟩, .string ⟨#[107]⟩] 9)) (some ⟨w.heap.size + 1, 0, none⟩) 1 sv [⟨#[97]⟩, ⟨#[98]⟩, ⟨#[99]⟩, ⟨#[100]⟩, ⟨#[101]⟩, ⟨#[102]⟩, ⟨#[103]⟩, ⟨#[104]⟩, ⟨#[105]⟩, ⟨#[107]⟩] by have q := rd_lits (w.alloc (.cells #[.string ⟨#[]⟩, .int .i64 0, .int .i64 0, .string ⟨#[]⟩, .int .i64 0, .int .i64 0] 49)) [⟨#[97]⟩, ⟨#[98]⟩, ⟨#[99]⟩, ⟨#[100]⟩, ⟨#[101]⟩, ⟨#[102]⟩, ⟨#[103]⟩, ⟨#[104]⟩, ⟨#[105]⟩, ⟨#[107]⟩] 9; rw [show (w.alloc (.cells #[.string ⟨#[]⟩, .int .i64 0, .int .i64 0, .string ⟨#[]⟩, .int .i64 0, .int .i64 0] 49)).heap.size = w.heap.size + 1 by simp] at q; exact q)
  replace X0 := Lib.hid (Gx.trans X0.out (Gx.of_G gx (some s)))
  replace H0 := Lib.hid (H0.out.g gx)
  replace Oq := Lib.hid (own_G Oq.out gx)
  skip
  refine (text_any (some ⟨w.heap.size + 1, 0, none⟩) 10 10 [⟨#[97]⟩, ⟨#[98]⟩, ⟨#[99]⟩, ⟨#[100]⟩, ⟨#[101]⟩, ⟨#[102]⟩, ⟨#[103]⟩, ⟨#[104]⟩, ⟨#[105]⟩, ⟨#[107]⟩] H0.out (by omega) HRL.out rfl (by omega) (by omega) (fun a ha => by cases ha; simp only; omega)).mono ?_
  rintro e w1 ⟨v1, ⟨x, hx, rfl⟩, rfl, g1, h1⟩
  replace Oq := Lib.hid (own_src Oq.out (by omega) g1)
  have X1 := Lib.hid (Gx.trans X0.out g1)
  have H1 := Lib.hid h1
  have z1 := World.grownBy.size X1.out
  clear g1 h1 X0 H0
  dsimp only
  clear HRL gx
  have hxs : x.size ≤ maxLen := by simp only [List.mem_cons, List.not_mem_nil, or_false] at hx; rcases hx with rfl | rfl | rfl | rfl | rfl | rfl | rfl | rfl | rfl | rfl <;> decide
  clear hx
  obtain ⟨q, HQq⟩ : ∃ q : Nat, Hid (w.heap.size = q) := ⟨_, rfl⟩
  have bq : w.heap.size ≤ q := by rw [← HQq.out]; omega
  rw [HQq.out] at Oq
  rw [HQq.out]
  go_wp2_with fail
  refine (pick_any 60 _ s A n c L (m + 2) H1.out (by omega) (by omega)).mono ?_
  rintro e w2 ⟨v2, ⟨y, hy0, hy1, rfl⟩, rfl, g2, h2⟩
  replace Oq := Lib.hid (own_src Oq.out (by omega) g2)
  have X2 := Lib.hid (Gx.trans X1.out g2)
  have H2 := Lib.hid h2
  have z2 := World.grownBy.size X2.out
  clear g2 h2 X1 H1
  dsimp only
  have lq := (Oq.out.lt q rfl).2
  have Of := Lib.hid (own_new (w := w2) (base := w.heap.size) (n := 1) (cap := 1) (size := 6) (e := 49) (cur := #[.string x, .int .i64 (100 * y), .int .i64 0, .string ⟨#[]⟩, .int .i64 0, .int .i64 0]) (by first | omega | (simp; omega) | simp) (by decide) (by decide) rfl)
  replace Oq := Lib.hid (own_G Oq.out ((G.refl (w2)).alloc (.cells #[.string x, .int .i64 (100 * y), .int .i64 0, .string ⟨#[]⟩, .int .i64 0, .int .i64 0] 49)))
  replace X2 := Lib.hid (Gx.trans X2.out (Gx.of_G ((G.refl (w2)).alloc (.cells #[.string x, .int .i64 (100 * y), .int .i64 0, .string ⟨#[]⟩, .int .i64 0, .int .i64 0] 49)) (some s)))
  replace H2 := Lib.hid (H2.out.g ((G.refl (w2)).alloc (.cells #[.string x, .int .i64 (100 * y), .int .i64 0, .string ⟨#[]⟩, .int .i64 0, .int .i64 0] 49)))
  go_wp2_with fail
  have gx := (G.refl (w2.alloc (.cells #[.string x, .int .i64 (100 * y), .int .i64 0, .string ⟨#[]⟩, .int .i64 0, .int .i64 0] 49))).alloc (.cells #[.string ⟨#[115, 116, 97, 114, 115]⟩, .string ⟨#[115, 117, 110]⟩, .string ⟨#[104, 97, 108, 108]⟩] 9)
  have HRL := Lib.hid (show Rd ((w2.alloc (.cells #[.string x, .int .i64 (100 * y), .int .i64 0, .string ⟨#[]⟩, .int .i64 0, .int .i64 0] 49)).alloc (.cells #[.string ⟨#[115, 116, 97, 114, 115]⟩, .string ⟨#[115, 117, 110]⟩, .string ⟨#[104, 97, 108, 108]⟩] 9)) (some ⟨w2.heap.size + 1, 0, none⟩) 1 sv [⟨#[115, 116, 97, 114, 115]⟩, ⟨#[115, 117, 110]⟩, ⟨#[104, 97, 108, 108]⟩] by have q := rd_lits (w2.alloc (.cells #[.string x, .int .i64 (100 * y), .int .i64 0, .string ⟨#[]⟩, .int .i64 0, .int .i64 0] 49)) [⟨#[115, 116, 97, 114, 115]⟩, ⟨#[115, 117, 110]⟩, ⟨#[104, 97, 108, 108]⟩] 9; rw [show (w2.alloc (.cells #[.string x, .int .i64 (100 * y), .int .i64 0, .string ⟨#[]⟩, .int .i64 0, .int .i64 0] 49)).heap.size = w2.heap.size + 1 by simp] at q; exact q)
  replace X2 := Lib.hid (Gx.trans X2.out (Gx.of_G gx (some s)))
  replace H2 := Lib.hid (H2.out.g gx)
  replace Oq := Lib.hid (own_G Oq.out gx)
  replace Of := Lib.hid (own_G Of.out gx)
  skip
  refine (text_any (some ⟨w2.heap.size + 1, 0, none⟩) 3 3 [⟨#[115, 116, 97, 114, 115]⟩, ⟨#[115, 117, 110]⟩, ⟨#[104, 97, 108, 108]⟩] H2.out (by omega) HRL.out rfl (by omega) (by omega) (fun a ha => by cases ha; simp only; omega)).mono ?_
  rintro e w3 ⟨v3, ⟨z, hz, rfl⟩, rfl, g3, h3⟩
  replace Oq := Lib.hid (own_src Oq.out (by omega) g3)
  replace Of := Lib.hid (own_src Of.out (by omega) g3)
  have X3 := Lib.hid (Gx.trans X2.out g3)
  have H3 := Lib.hid h3
  have z3 := World.grownBy.size X3.out
  clear g3 h3 X2 H2
  dsimp only
  clear HRL gx
  have hzs : z.size ≤ maxLen := by simp only [List.mem_cons, List.not_mem_nil, or_false] at hz; rcases hz with rfl | rfl | rfl <;> decide
  clear hz
  obtain ⟨f, HQf⟩ : ∃ q : Nat, Hid (w2.heap.size = q) := ⟨_, rfl⟩
  have bf : w.heap.size ≤ f := by rw [← HQf.out]; omega
  rw [HQf.out] at Of
  rw [HQf.out]
  have hne : q ≠ f := by rw [← HQf.out]; omega
  have hsf : s < f := by rw [← HQf.out]; omega
  have hcq0 := own_cellAt_mid Oq.out (j := 0) rfl
  have hyq0 := own_frozen_of Oq.out 0
  have hcq1 := own_cellAt_mid Oq.out (j := 1) rfl
  have hyq1 := own_frozen_of Oq.out 1
  have hcq2 := own_cellAt_mid Oq.out (j := 2) rfl
  have hyq2 := own_frozen_of Oq.out 2
  have hcq3 := own_cellAt_mid Oq.out (j := 3) rfl
  have hyq3 := own_frozen_of Oq.out 3
  have hcq4 := own_cellAt_mid Oq.out (j := 4) rfl
  have hyq4 := own_frozen_of Oq.out 4
  have hcq5 := own_cellAt_mid Oq.out (j := 5) rfl
  have hyq5 := own_frozen_of Oq.out 5
  have hcf0 := own_cellAt_mid Of.out (j := 0) rfl
  have hyf0 := own_frozen_of Of.out 0
  have hcf1 := own_cellAt_mid Of.out (j := 1) rfl
  have hyf1 := own_frozen_of Of.out 1
  have hcf2 := own_cellAt_mid Of.out (j := 2) rfl
  have hyf2 := own_frozen_of Of.out 2
  have hcf3 := own_cellAt_mid Of.out (j := 3) rfl
  have hyf3 := own_frozen_of Of.out 3
  have hcf4 := own_cellAt_mid Of.out (j := 4) rfl
  have hyf4 := own_frozen_of Of.out 4
  have hcf5 := own_cellAt_mid Of.out (j := 5) rfl
  have hyf5 := own_frozen_of Of.out 5
  go_wp2_with fail
  clear hcq0 hyq0 hcq1 hyq1 hcq2 hyq2 hcq3 hyq3 hcq4 hyq4 hcq5 hyq5 hcf0 hyf0 hcf1 hyf1 hcf2 hyf2 hcf3 hyf3 hcf4 hyf4 hcf5 hyf5
  have S3 := Lib.hid (Of.out.stored 3 (.string z))
  replace Oq := Lib.hid (own_Gx Oq.out S3.out.2 (.inr (by simp [Value.ownBlock]; omega)))
  replace Of := Lib.hid S3.out.1
  replace X3 := Lib.hid (Gx.grown X3.out S3.out.2 (fun k hk => by cases hk; omega))
  replace H3 := Lib.hid (H3.out.grown S3.out.2 (fun k hk => by cases hk; omega))
  clear S3
  skip
  refine (pick_any 3 _ s A n c L (m + 6) H3.out (by omega) (by omega)).mono ?_
  rintro e w4 ⟨v4, ⟨a, ha0, ha1, rfl⟩, rfl, g4, h4⟩
  replace Oq := Lib.hid (own_src Oq.out (by omega) g4)
  replace Of := Lib.hid (own_src Of.out (by omega) g4)
  have X4 := Lib.hid (Gx.trans X3.out g4)
  have H4 := Lib.hid h4
  have z4 := World.grownBy.size X4.out
  clear g4 h4 X3 H3
  dsimp only
  have ha : a = 0 ∨ a = 1 ∨ a = 2 := by omega
  clear ha0 ha1
  rcases ha with rfl | rfl | rfl
  · have hcq0 := own_cellAt_mid Oq.out (j := 0) rfl
    have hyq0 := own_frozen_of Oq.out 0
    have hcq1 := own_cellAt_mid Oq.out (j := 1) rfl
    have hyq1 := own_frozen_of Oq.out 1
    have hcq2 := own_cellAt_mid Oq.out (j := 2) rfl
    have hyq2 := own_frozen_of Oq.out 2
    have hcq3 := own_cellAt_mid Oq.out (j := 3) rfl
    have hyq3 := own_frozen_of Oq.out 3
    have hcq4 := own_cellAt_mid Oq.out (j := 4) rfl
    have hyq4 := own_frozen_of Oq.out 4
    have hcq5 := own_cellAt_mid Oq.out (j := 5) rfl
    have hyq5 := own_frozen_of Oq.out 5
    have hcf0 := own_cellAt_mid Of.out (j := 0) rfl
    have hyf0 := own_frozen_of Of.out 0
    have hcf1 := own_cellAt_mid Of.out (j := 1) rfl
    have hyf1 := own_frozen_of Of.out 1
    have hcf2 := own_cellAt_mid Of.out (j := 2) rfl
    have hyf2 := own_frozen_of Of.out 2
    have hcf3 := own_cellAt_mid Of.out (j := 3) rfl
    have hyf3 := own_frozen_of Of.out 3
    have hcf4 := own_cellAt_mid Of.out (j := 4) rfl
    have hyf4 := own_frozen_of Of.out 4
    have hcf5 := own_cellAt_mid Of.out (j := 5) rfl
    have hyf5 := own_frozen_of Of.out 5
    go_wp2_with fail
    clear hcq0 hyq0 hcq1 hyq1 hcq2 hyq2 hcq3 hyq3 hcq4 hyq4 hcq5 hyq5 hcf0 hyf0 hcf1 hyf1 hcf2 hyf2 hcf3 hyf3 hcf4 hyf4 hcf5 hyf5
    have S4 := Lib.hid (Of.out.stored 4 (.int .i64 1))
    replace Oq := Lib.hid (own_Gx Oq.out S4.out.2 (.inr (by simp [Value.ownBlock]; omega)))
    replace Of := Lib.hid S4.out.1
    replace X4 := Lib.hid (Gx.grown X4.out S4.out.2 (fun k hk => by cases hk; omega))
    replace H4 := Lib.hid (H4.out.grown S4.out.2 (fun k hk => by cases hk; omega))
    clear S4
    skip
    refine (pick_any 11 _ s A n c L (m + 8) H4.out (by omega) (by omega)).mono ?_
    rintro e w5 ⟨v5, ⟨u, hu0, hu1, rfl⟩, rfl, g5, h5⟩
    replace Oq := Lib.hid (own_src Oq.out (by omega) g5)
    replace Of := Lib.hid (own_src Of.out (by omega) g5)
    have X5 := Lib.hid (Gx.trans X4.out g5)
    have H5 := Lib.hid h5
    have z5 := World.grownBy.size X5.out
    clear g5 h5 X4 H4
    dsimp only
    have hcq0 := own_cellAt_mid Oq.out (j := 0) rfl
    have hyq0 := own_frozen_of Oq.out 0
    have hcq1 := own_cellAt_mid Oq.out (j := 1) rfl
    have hyq1 := own_frozen_of Oq.out 1
    have hcq2 := own_cellAt_mid Oq.out (j := 2) rfl
    have hyq2 := own_frozen_of Oq.out 2
    have hcq3 := own_cellAt_mid Oq.out (j := 3) rfl
    have hyq3 := own_frozen_of Oq.out 3
    have hcq4 := own_cellAt_mid Oq.out (j := 4) rfl
    have hyq4 := own_frozen_of Oq.out 4
    have hcq5 := own_cellAt_mid Oq.out (j := 5) rfl
    have hyq5 := own_frozen_of Oq.out 5
    have hcf0 := own_cellAt_mid Of.out (j := 0) rfl
    have hyf0 := own_frozen_of Of.out 0
    have hcf1 := own_cellAt_mid Of.out (j := 1) rfl
    have hyf1 := own_frozen_of Of.out 1
    have hcf2 := own_cellAt_mid Of.out (j := 2) rfl
    have hyf2 := own_frozen_of Of.out 2
    have hcf3 := own_cellAt_mid Of.out (j := 3) rfl
    have hyf3 := own_frozen_of Of.out 3
    have hcf4 := own_cellAt_mid Of.out (j := 4) rfl
    have hyf4 := own_frozen_of Of.out 4
    have hcf5 := own_cellAt_mid Of.out (j := 5) rfl
    have hyf5 := own_frozen_of Of.out 5
    go_wp2_with fail
    clear hcq0 hyq0 hcq1 hyq1 hcq2 hyq2 hcq3 hyq3 hcq4 hyq4 hcq5 hyq5 hcf0 hyf0 hcf1 hyf1 hcf2 hyf2 hcf3 hyf3 hcf4 hyf4 hcf5 hyf5
    have S5 := Lib.hid (Of.out.stored 5 (.int .i64 (100 * u)))
    replace Oq := Lib.hid (own_Gx Oq.out S5.out.2 (.inr (by simp [Value.ownBlock]; omega)))
    replace Of := Lib.hid S5.out.1
    replace X5 := Lib.hid (Gx.grown X5.out S5.out.2 (fun k hk => by cases hk; omega))
    replace H5 := Lib.hid (H5.out.grown S5.out.2 (fun k hk => by cases hk; omega))
    clear S5
    have S6 := Lib.hid (Oq.out.stored 0 (.string x))
    replace Of := Lib.hid (own_Gx Of.out S6.out.2 (.inr (by simp [Value.ownBlock]; omega)))
    replace Oq := Lib.hid S6.out.1
    replace X5 := Lib.hid (Gx.grown X5.out S6.out.2 (fun k hk => by cases hk; omega))
    replace H5 := Lib.hid (H5.out.grown S6.out.2 (fun k hk => by cases hk; omega))
    clear S6
    have S7 := Lib.hid (Oq.out.stored 1 (.int .i64 (100 * y)))
    replace Of := Lib.hid (own_Gx Of.out S7.out.2 (.inr (by simp [Value.ownBlock]; omega)))
    replace Oq := Lib.hid S7.out.1
    replace X5 := Lib.hid (Gx.grown X5.out S7.out.2 (fun k hk => by cases hk; omega))
    replace H5 := Lib.hid (H5.out.grown S7.out.2 (fun k hk => by cases hk; omega))
    clear S7
    have S8 := Lib.hid (Oq.out.stored 2 (.int .i64 0))
    replace Of := Lib.hid (own_Gx Of.out S8.out.2 (.inr (by simp [Value.ownBlock]; omega)))
    replace Oq := Lib.hid S8.out.1
    replace X5 := Lib.hid (Gx.grown X5.out S8.out.2 (fun k hk => by cases hk; omega))
    replace H5 := Lib.hid (H5.out.grown S8.out.2 (fun k hk => by cases hk; omega))
    clear S8
    have S9 := Lib.hid (Oq.out.stored 3 (.string z))
    replace Of := Lib.hid (own_Gx Of.out S9.out.2 (.inr (by simp [Value.ownBlock]; omega)))
    replace Oq := Lib.hid S9.out.1
    replace X5 := Lib.hid (Gx.grown X5.out S9.out.2 (fun k hk => by cases hk; omega))
    replace H5 := Lib.hid (H5.out.grown S9.out.2 (fun k hk => by cases hk; omega))
    clear S9
    have S10 := Lib.hid (Oq.out.stored 4 (.int .i64 1))
    replace Of := Lib.hid (own_Gx Of.out S10.out.2 (.inr (by simp [Value.ownBlock]; omega)))
    replace Oq := Lib.hid S10.out.1
    replace X5 := Lib.hid (Gx.grown X5.out S10.out.2 (fun k hk => by cases hk; omega))
    replace H5 := Lib.hid (H5.out.grown S10.out.2 (fun k hk => by cases hk; omega))
    clear S10
    have S11 := Lib.hid (Oq.out.stored 5 (.int .i64 (100 * u)))
    replace Of := Lib.hid (own_Gx Of.out S11.out.2 (.inr (by simp [Value.ownBlock]; omega)))
    replace Oq := Lib.hid S11.out.1
    replace X5 := Lib.hid (Gx.grown X5.out S11.out.2 (fun k hk => by cases hk; omega))
    replace H5 := Lib.hid (H5.out.grown S11.out.2 (fun k hk => by cases hk; omega))
    clear S11
    have k0 := own_cellAt_mid Oq.out (j := 0) rfl
    have k1 := own_cellAt_mid Oq.out (j := 1) rfl
    have k2 := own_cellAt_mid Oq.out (j := 2) rfl
    have k3 := own_cellAt_mid Oq.out (j := 3) rfl
    have k4 := own_cellAt_mid Oq.out (j := 4) rfl
    have k5 := own_cellAt_mid Oq.out (j := 5) rfl
    refine bodyPost_ret (v := .agg #[.string x, .int .i64 (100 * y), .int .i64 0, .string z, .int .i64 1, .int .i64 (100 * u)]) (by simp [results, Tryz.results44, go_sem, k0, k1, k2, k3, k4, k5]) rfl ⟨_, ⟨⟨x, (100 * y), 0, z, 1, (100 * u)⟩, ⟨hxs, hzs⟩, rfl⟩, rfl, X5.out, H5.out.up (by omega) hm⟩
  · have hcq0 := own_cellAt_mid Oq.out (j := 0) rfl
    have hyq0 := own_frozen_of Oq.out 0
    have hcq1 := own_cellAt_mid Oq.out (j := 1) rfl
    have hyq1 := own_frozen_of Oq.out 1
    have hcq2 := own_cellAt_mid Oq.out (j := 2) rfl
    have hyq2 := own_frozen_of Oq.out 2
    have hcq3 := own_cellAt_mid Oq.out (j := 3) rfl
    have hyq3 := own_frozen_of Oq.out 3
    have hcq4 := own_cellAt_mid Oq.out (j := 4) rfl
    have hyq4 := own_frozen_of Oq.out 4
    have hcq5 := own_cellAt_mid Oq.out (j := 5) rfl
    have hyq5 := own_frozen_of Oq.out 5
    have hcf0 := own_cellAt_mid Of.out (j := 0) rfl
    have hyf0 := own_frozen_of Of.out 0
    have hcf1 := own_cellAt_mid Of.out (j := 1) rfl
    have hyf1 := own_frozen_of Of.out 1
    have hcf2 := own_cellAt_mid Of.out (j := 2) rfl
    have hyf2 := own_frozen_of Of.out 2
    have hcf3 := own_cellAt_mid Of.out (j := 3) rfl
    have hyf3 := own_frozen_of Of.out 3
    have hcf4 := own_cellAt_mid Of.out (j := 4) rfl
    have hyf4 := own_frozen_of Of.out 4
    have hcf5 := own_cellAt_mid Of.out (j := 5) rfl
    have hyf5 := own_frozen_of Of.out 5
    go_wp2_with fail
    clear hcq0 hyq0 hcq1 hyq1 hcq2 hyq2 hcq3 hyq3 hcq4 hyq4 hcq5 hyq5 hcf0 hyf0 hcf1 hyf1 hcf2 hyf2 hcf3 hyf3 hcf4 hyf4 hcf5 hyf5
    have S4 := Lib.hid (Of.out.stored 4 (.int .i64 2))
    replace Oq := Lib.hid (own_Gx Oq.out S4.out.2 (.inr (by simp [Value.ownBlock]; omega)))
    replace Of := Lib.hid S4.out.1
    replace X4 := Lib.hid (Gx.grown X4.out S4.out.2 (fun k hk => by cases hk; omega))
    replace H4 := Lib.hid (H4.out.grown S4.out.2 (fun k hk => by cases hk; omega))
    clear S4
    skip
    refine (pick_any 11 _ s A n c L (m + 8) H4.out (by omega) (by omega)).mono ?_
    rintro e w5 ⟨v5, ⟨u, hu0, hu1, rfl⟩, rfl, g5, h5⟩
    replace Oq := Lib.hid (own_src Oq.out (by omega) g5)
    replace Of := Lib.hid (own_src Of.out (by omega) g5)
    have X5 := Lib.hid (Gx.trans X4.out g5)
    have H5 := Lib.hid h5
    have z5 := World.grownBy.size X5.out
    clear g5 h5 X4 H4
    dsimp only
    have hcq0 := own_cellAt_mid Oq.out (j := 0) rfl
    have hyq0 := own_frozen_of Oq.out 0
    have hcq1 := own_cellAt_mid Oq.out (j := 1) rfl
    have hyq1 := own_frozen_of Oq.out 1
    have hcq2 := own_cellAt_mid Oq.out (j := 2) rfl
    have hyq2 := own_frozen_of Oq.out 2
    have hcq3 := own_cellAt_mid Oq.out (j := 3) rfl
    have hyq3 := own_frozen_of Oq.out 3
    have hcq4 := own_cellAt_mid Oq.out (j := 4) rfl
    have hyq4 := own_frozen_of Oq.out 4
    have hcq5 := own_cellAt_mid Oq.out (j := 5) rfl
    have hyq5 := own_frozen_of Oq.out 5
    have hcf0 := own_cellAt_mid Of.out (j := 0) rfl
    have hyf0 := own_frozen_of Of.out 0
    have hcf1 := own_cellAt_mid Of.out (j := 1) rfl
    have hyf1 := own_frozen_of Of.out 1
    have hcf2 := own_cellAt_mid Of.out (j := 2) rfl
    have hyf2 := own_frozen_of Of.out 2
    have hcf3 := own_cellAt_mid Of.out (j := 3) rfl
    have hyf3 := own_frozen_of Of.out 3
    have hcf4 := own_cellAt_mid Of.out (j := 4) rfl
    have hyf4 := own_frozen_of Of.out 4
    have hcf5 := own_cellAt_mid Of.out (j := 5) rfl
    have hyf5 := own_frozen_of Of.out 5
    go_wp2_with fail
    clear hcq0 hyq0 hcq1 hyq1 hcq2 hyq2 hcq3 hyq3 hcq4 hyq4 hcq5 hyq5 hcf0 hyf0 hcf1 hyf1 hcf2 hyf2 hcf3 hyf3 hcf4 hyf4 hcf5 hyf5
    have S5 := Lib.hid (Of.out.stored 5 (.int .i64 (100 * u)))
    replace Oq := Lib.hid (own_Gx Oq.out S5.out.2 (.inr (by simp [Value.ownBlock]; omega)))
    replace Of := Lib.hid S5.out.1
    replace X5 := Lib.hid (Gx.grown X5.out S5.out.2 (fun k hk => by cases hk; omega))
    replace H5 := Lib.hid (H5.out.grown S5.out.2 (fun k hk => by cases hk; omega))
    clear S5
    skip
    refine (pick_any 12 _ s A n c L (m + 10) H5.out (by omega) (by omega)).mono ?_
    rintro e w6 ⟨v6, ⟨t, ht0, ht1, rfl⟩, rfl, g6, h6⟩
    replace Oq := Lib.hid (own_src Oq.out (by omega) g6)
    replace Of := Lib.hid (own_src Of.out (by omega) g6)
    have X6 := Lib.hid (Gx.trans X5.out g6)
    have H6 := Lib.hid h6
    have z6 := World.grownBy.size X6.out
    clear g6 h6 X5 H5
    dsimp only
    have hcq0 := own_cellAt_mid Oq.out (j := 0) rfl
    have hyq0 := own_frozen_of Oq.out 0
    have hcq1 := own_cellAt_mid Oq.out (j := 1) rfl
    have hyq1 := own_frozen_of Oq.out 1
    have hcq2 := own_cellAt_mid Oq.out (j := 2) rfl
    have hyq2 := own_frozen_of Oq.out 2
    have hcq3 := own_cellAt_mid Oq.out (j := 3) rfl
    have hyq3 := own_frozen_of Oq.out 3
    have hcq4 := own_cellAt_mid Oq.out (j := 4) rfl
    have hyq4 := own_frozen_of Oq.out 4
    have hcq5 := own_cellAt_mid Oq.out (j := 5) rfl
    have hyq5 := own_frozen_of Oq.out 5
    have hcf0 := own_cellAt_mid Of.out (j := 0) rfl
    have hyf0 := own_frozen_of Of.out 0
    have hcf1 := own_cellAt_mid Of.out (j := 1) rfl
    have hyf1 := own_frozen_of Of.out 1
    have hcf2 := own_cellAt_mid Of.out (j := 2) rfl
    have hyf2 := own_frozen_of Of.out 2
    have hcf3 := own_cellAt_mid Of.out (j := 3) rfl
    have hyf3 := own_frozen_of Of.out 3
    have hcf4 := own_cellAt_mid Of.out (j := 4) rfl
    have hyf4 := own_frozen_of Of.out 4
    have hcf5 := own_cellAt_mid Of.out (j := 5) rfl
    have hyf5 := own_frozen_of Of.out 5
    go_wp2
    clear hcq0 hyq0 hcq1 hyq1 hcq2 hyq2 hcq3 hyq3 hcq4 hyq4 hcq5 hyq5 hcf0 hyf0 hcf1 hyf1 hcf2 hyf2 hcf3 hyf3 hcf4 hyf4 hcf5 hyf5
    have S6 := Lib.hid (Of.out.stored 2 (.int .i64 (100 * (1 + t))))
    replace Oq := Lib.hid (own_Gx Oq.out S6.out.2 (.inr (by simp [Value.ownBlock]; omega)))
    replace Of := Lib.hid S6.out.1
    replace X6 := Lib.hid (Gx.grown X6.out S6.out.2 (fun k hk => by cases hk; omega))
    replace H6 := Lib.hid (H6.out.grown S6.out.2 (fun k hk => by cases hk; omega))
    clear S6
    have S7 := Lib.hid (Oq.out.stored 0 (.string x))
    replace Of := Lib.hid (own_Gx Of.out S7.out.2 (.inr (by simp [Value.ownBlock]; omega)))
    replace Oq := Lib.hid S7.out.1
    replace X6 := Lib.hid (Gx.grown X6.out S7.out.2 (fun k hk => by cases hk; omega))
    replace H6 := Lib.hid (H6.out.grown S7.out.2 (fun k hk => by cases hk; omega))
    clear S7
    have S8 := Lib.hid (Oq.out.stored 1 (.int .i64 (100 * y)))
    replace Of := Lib.hid (own_Gx Of.out S8.out.2 (.inr (by simp [Value.ownBlock]; omega)))
    replace Oq := Lib.hid S8.out.1
    replace X6 := Lib.hid (Gx.grown X6.out S8.out.2 (fun k hk => by cases hk; omega))
    replace H6 := Lib.hid (H6.out.grown S8.out.2 (fun k hk => by cases hk; omega))
    clear S8
    have S9 := Lib.hid (Oq.out.stored 2 (.int .i64 (100 * (1 + t))))
    replace Of := Lib.hid (own_Gx Of.out S9.out.2 (.inr (by simp [Value.ownBlock]; omega)))
    replace Oq := Lib.hid S9.out.1
    replace X6 := Lib.hid (Gx.grown X6.out S9.out.2 (fun k hk => by cases hk; omega))
    replace H6 := Lib.hid (H6.out.grown S9.out.2 (fun k hk => by cases hk; omega))
    clear S9
    have S10 := Lib.hid (Oq.out.stored 3 (.string z))
    replace Of := Lib.hid (own_Gx Of.out S10.out.2 (.inr (by simp [Value.ownBlock]; omega)))
    replace Oq := Lib.hid S10.out.1
    replace X6 := Lib.hid (Gx.grown X6.out S10.out.2 (fun k hk => by cases hk; omega))
    replace H6 := Lib.hid (H6.out.grown S10.out.2 (fun k hk => by cases hk; omega))
    clear S10
    have S11 := Lib.hid (Oq.out.stored 4 (.int .i64 2))
    replace Of := Lib.hid (own_Gx Of.out S11.out.2 (.inr (by simp [Value.ownBlock]; omega)))
    replace Oq := Lib.hid S11.out.1
    replace X6 := Lib.hid (Gx.grown X6.out S11.out.2 (fun k hk => by cases hk; omega))
    replace H6 := Lib.hid (H6.out.grown S11.out.2 (fun k hk => by cases hk; omega))
    clear S11
    have S12 := Lib.hid (Oq.out.stored 5 (.int .i64 (100 * u)))
    replace Of := Lib.hid (own_Gx Of.out S12.out.2 (.inr (by simp [Value.ownBlock]; omega)))
    replace Oq := Lib.hid S12.out.1
    replace X6 := Lib.hid (Gx.grown X6.out S12.out.2 (fun k hk => by cases hk; omega))
    replace H6 := Lib.hid (H6.out.grown S12.out.2 (fun k hk => by cases hk; omega))
    clear S12
    have k0 := own_cellAt_mid Oq.out (j := 0) rfl
    have k1 := own_cellAt_mid Oq.out (j := 1) rfl
    have k2 := own_cellAt_mid Oq.out (j := 2) rfl
    have k3 := own_cellAt_mid Oq.out (j := 3) rfl
    have k4 := own_cellAt_mid Oq.out (j := 4) rfl
    have k5 := own_cellAt_mid Oq.out (j := 5) rfl
    refine bodyPost_ret (v := .agg #[.string x, .int .i64 (100 * y), .int .i64 (100 * (1 + t)), .string z, .int .i64 2, .int .i64 (100 * u)]) (by simp [results, Tryz.results44, go_sem, k0, k1, k2, k3, k4, k5]) rfl ⟨_, ⟨⟨x, (100 * y), (100 * (1 + t)), z, 2, (100 * u)⟩, ⟨hxs, hzs⟩, rfl⟩, rfl, X6.out, H6.out.up (by omega) hm⟩
  · have hcq0 := own_cellAt_mid Oq.out (j := 0) rfl
    have hyq0 := own_frozen_of Oq.out 0
    have hcq1 := own_cellAt_mid Oq.out (j := 1) rfl
    have hyq1 := own_frozen_of Oq.out 1
    have hcq2 := own_cellAt_mid Oq.out (j := 2) rfl
    have hyq2 := own_frozen_of Oq.out 2
    have hcq3 := own_cellAt_mid Oq.out (j := 3) rfl
    have hyq3 := own_frozen_of Oq.out 3
    have hcq4 := own_cellAt_mid Oq.out (j := 4) rfl
    have hyq4 := own_frozen_of Oq.out 4
    have hcq5 := own_cellAt_mid Oq.out (j := 5) rfl
    have hyq5 := own_frozen_of Oq.out 5
    have hcf0 := own_cellAt_mid Of.out (j := 0) rfl
    have hyf0 := own_frozen_of Of.out 0
    have hcf1 := own_cellAt_mid Of.out (j := 1) rfl
    have hyf1 := own_frozen_of Of.out 1
    have hcf2 := own_cellAt_mid Of.out (j := 2) rfl
    have hyf2 := own_frozen_of Of.out 2
    have hcf3 := own_cellAt_mid Of.out (j := 3) rfl
    have hyf3 := own_frozen_of Of.out 3
    have hcf4 := own_cellAt_mid Of.out (j := 4) rfl
    have hyf4 := own_frozen_of Of.out 4
    have hcf5 := own_cellAt_mid Of.out (j := 5) rfl
    have hyf5 := own_frozen_of Of.out 5
    go_wp2_with fail
    clear hcq0 hyq0 hcq1 hyq1 hcq2 hyq2 hcq3 hyq3 hcq4 hyq4 hcq5 hyq5 hcf0 hyf0 hcf1 hyf1 hcf2 hyf2 hcf3 hyf3 hcf4 hyf4 hcf5 hyf5
    have S4 := Lib.hid (Of.out.stored 4 (.int .i64 3))
    replace Oq := Lib.hid (own_Gx Oq.out S4.out.2 (.inr (by simp [Value.ownBlock]; omega)))
    replace Of := Lib.hid S4.out.1
    replace X4 := Lib.hid (Gx.grown X4.out S4.out.2 (fun k hk => by cases hk; omega))
    replace H4 := Lib.hid (H4.out.grown S4.out.2 (fun k hk => by cases hk; omega))
    clear S4
    have S5 := Lib.hid (Oq.out.stored 0 (.string x))
    replace Of := Lib.hid (own_Gx Of.out S5.out.2 (.inr (by simp [Value.ownBlock]; omega)))
    replace Oq := Lib.hid S5.out.1
    replace X4 := Lib.hid (Gx.grown X4.out S5.out.2 (fun k hk => by cases hk; omega))
    replace H4 := Lib.hid (H4.out.grown S5.out.2 (fun k hk => by cases hk; omega))
    clear S5
    have S6 := Lib.hid (Oq.out.stored 1 (.int .i64 (100 * y)))
    replace Of := Lib.hid (own_Gx Of.out S6.out.2 (.inr (by simp [Value.ownBlock]; omega)))
    replace Oq := Lib.hid S6.out.1
    replace X4 := Lib.hid (Gx.grown X4.out S6.out.2 (fun k hk => by cases hk; omega))
    replace H4 := Lib.hid (H4.out.grown S6.out.2 (fun k hk => by cases hk; omega))
    clear S6
    have S7 := Lib.hid (Oq.out.stored 2 (.int .i64 0))
    replace Of := Lib.hid (own_Gx Of.out S7.out.2 (.inr (by simp [Value.ownBlock]; omega)))
    replace Oq := Lib.hid S7.out.1
    replace X4 := Lib.hid (Gx.grown X4.out S7.out.2 (fun k hk => by cases hk; omega))
    replace H4 := Lib.hid (H4.out.grown S7.out.2 (fun k hk => by cases hk; omega))
    clear S7
    have S8 := Lib.hid (Oq.out.stored 3 (.string z))
    replace Of := Lib.hid (own_Gx Of.out S8.out.2 (.inr (by simp [Value.ownBlock]; omega)))
    replace Oq := Lib.hid S8.out.1
    replace X4 := Lib.hid (Gx.grown X4.out S8.out.2 (fun k hk => by cases hk; omega))
    replace H4 := Lib.hid (H4.out.grown S8.out.2 (fun k hk => by cases hk; omega))
    clear S8
    have S9 := Lib.hid (Oq.out.stored 4 (.int .i64 3))
    replace Of := Lib.hid (own_Gx Of.out S9.out.2 (.inr (by simp [Value.ownBlock]; omega)))
    replace Oq := Lib.hid S9.out.1
    replace X4 := Lib.hid (Gx.grown X4.out S9.out.2 (fun k hk => by cases hk; omega))
    replace H4 := Lib.hid (H4.out.grown S9.out.2 (fun k hk => by cases hk; omega))
    clear S9
    have S10 := Lib.hid (Oq.out.stored 5 (.int .i64 0))
    replace Of := Lib.hid (own_Gx Of.out S10.out.2 (.inr (by simp [Value.ownBlock]; omega)))
    replace Oq := Lib.hid S10.out.1
    replace X4 := Lib.hid (Gx.grown X4.out S10.out.2 (fun k hk => by cases hk; omega))
    replace H4 := Lib.hid (H4.out.grown S10.out.2 (fun k hk => by cases hk; omega))
    clear S10
    have k0 := own_cellAt_mid Oq.out (j := 0) rfl
    have k1 := own_cellAt_mid Oq.out (j := 1) rfl
    have k2 := own_cellAt_mid Oq.out (j := 2) rfl
    have k3 := own_cellAt_mid Oq.out (j := 3) rfl
    have k4 := own_cellAt_mid Oq.out (j := 4) rfl
    have k5 := own_cellAt_mid Oq.out (j := 5) rfl
    refine bodyPost_ret (v := .agg #[.string x, .int .i64 (100 * y), .int .i64 0, .string z, .int .i64 3, .int .i64 0]) (by simp [results, Tryz.results44, go_sem, k0, k1, k2, k3, k4, k5]) rfl ⟨_, ⟨⟨x, (100 * y), 0, z, 3, 0⟩, ⟨hxs, hzs⟩, rfl⟩, rfl, X4.out, H4.out.up (by omega) hm⟩

set_option maxRecDepth 20000 in
set_option maxHeartbeats 8000000 in
theorem l13Draw_any (w : World) (s : Nat) (A : Option Addr) (n c : Nat) (L : List Int) (m : Nat) (h : Src w s A n c L m) (hm : m + 120 ≤ 1000000) :
    Calls Tryz.prog 30 #[.pointer (some ⟨s, 0, none⟩)] w fun e w' => ∃ (b cb : Nat) (M : List SCue), e = .returned (.slice (some ⟨b, 0, none⟩) M.length cb) ∧ vcus M = true ∧ Gx (some s) w w' ∧ Src w' s A n c L (m + 120) ∧ w'.ownsRow w.heap.size 49 6 (.slice (some ⟨b, 0, none⟩) M.length cb) M.length (M.flatMap cCue) := by
  have hsl := h.lt
  have OE := Lib.hid (World.ownsRow_lit (e := 49) (base := w.heap.size) (size := 6) w #[] 0 (Nat.le_refl _) (by unfold maxLen; omega) rfl)
  have H0 := Lib.hid (h.g ((G.refl w).alloc (.cells #[] 49)))
  have X0 := Lib.hid (Gx.of_G ((G.refl w).alloc (.cells #[] 49)) (some s))
  clear h
  go_enter Tryz.func30, Tryz.ntmps30
  go_wp2_with fail
  refine (pick_any 9 _ s A n c L m H0.out (by omega) (by omega)).mono ?_
  rintro e w1 ⟨v1, ⟨x, hx0, hx1, rfl⟩, rfl, g1, h1⟩
  obtain ⟨x, rfl⟩ : ∃ k : Nat, x = k := ⟨x.toNat, by omega⟩
  have hx9 : x ≤ 9 := by omega
  have X1 := Lib.hid (Gx.trans X0.out g1)
  have O1 := Lib.hid (own_src OE.out hsl g1)
  have H1 := Lib.hid h1
  clear g1 h1 OE H0 X0 hx0 hx1
  dsimp only
  go_wp2
  go_loopw [3, 4] (fun v i wr => ∃ (j b cb q : Nat) (M : List SCue), j ≤ 9 ∧ i = .int .i64 j ∧ v = .slice (some ⟨b, 0, none⟩) M.length cb ∧ q + 12 * j ≤ m + 110 ∧ w.heap.size ≤ wr.heap.size ∧ Hid (vcus M = true) ∧ Hid (wr.ownsRow w.heap.size 49 6 (.slice (some ⟨b, 0, none⟩) M.length cb) M.length (M.flatMap cCue)) ∧ Hid (Gx (some s) w wr) ∧ Hid (Src wr s A n c L q)) (fun _ i _ => (intOf i).toNat)
  case atStart => exact ⟨x, w.heap.size, 0, m + 2, [], hx9, rfl, rfl, by omega, World.grownBy.size X1.out, Lib.hid (by decide), O1, X1, H1⟩
  case round =>
    clear O1 X1 H1 hx9
    obtain ⟨j, b, cb, q, M, hj, rfl, rfl, hq, hsw, HV, HO, X0, HS⟩ := hrel
    rcases j with _ | j
    · go_wp2
      go_ret
      exact ⟨b, cb, M, rfl, HV.out, X0.out, HS.out.up (by omega) (by omega), HO.out⟩
    · obtain ⟨k, hk⟩ : ∃ k : Nat, k = j + 1 := ⟨_, rfl⟩
      rw [← hk] at hj hq ⊢
      have hk0 : (0 : Int) < (k : Int) := by omega
      have hk1 : (k : Int) - 1 = (j : Int) := by omega
      have hcap := (own_cap HO.out).1
      go_wp2_with fail
      refine (l13DrawOne_any _ s A n c L _ HS.out (by omega)).mono ?_
      rintro e w3 ⟨v3, ⟨y, hy, rfl⟩, rfl, g3, h3⟩
      have X3 := Lib.hid (Gx.trans X0.out g3)
      have O3 := Lib.hid (own_src HO.out hsl g3)
      have H3 := Lib.hid h3
      clear g3 h3 HO HS X0
      dsimp only
      go_wp2_with fail
      refine (sAddCue_any b M.length cb M y _ (rd_own (by decide) cCue_len O3.out) rfl hcap HV.out hy).mono ?_
      rintro e w4 ⟨B4, c4, R, code, rfl, g4, o4, hR⟩
      have z3 := World.grownBy.size X3.out
      have X4 := Lib.hid (Gx.trans X3.out (Gx.of_G g4 (some s)))
      have z4 := World.grownBy.size X4.out
      have H4 := Lib.hid ((H3.out.g g4).up (k := q + 12) (by omega) (by omega))
      have O4 := Lib.hid (own_G O3.out g4)
      have N4 := Lib.hid (o4.mono z3)
      have HR := Lib.hid hR
      clear g4 o4 X3 H3 O3 hR
      dsimp only
      by_cases hz : code = 0
      · have hd : (code == 0) = true := by simp [hz]
        obtain ⟨r1, r2, r3⟩ := HR.out hz
        have HV2 := Lib.hid r1
        obtain ⟨b4, rfl⟩ := own_some2 N4.out r2
        clear hz HR r1 r2 r3
        go_wp2
        go_roundw
        case rel => exact ⟨j, b4, c4, q + 12, R, by omega, by go_num, rfl, by omega, z4, HV2, N4, X4, H4⟩
        case measure => simp [intOf]; omega
      · have hd : (code == 0) = false := by simp [hz]
        clear hz HR
        go_wp2
        go_roundw
        case rel => exact ⟨j, b, cb, q + 12, M, by omega, by go_num, rfl, by omega, z4, HV, O4, X4, H4⟩
        case measure => simp [intOf]; omega

/-- A valid player drawn: its list of cues is the call's own. -/
def PlD (w : World) (v : Value) (w' : World) : Prop := ∃ (b cb : Nat) (M : List SCue) (t r : Int) (p : Bool), v = .agg #[.slice (some ⟨b, 0, none⟩) M.length cb, .int .i64 t, .int .i64 r, .bool p] ∧ vplB M t r = true ∧ M.length ≤ cb ∧ w'.ownsRow w.heap.size 49 6 (.slice (some ⟨b, 0, none⟩) M.length cb) M.length (M.flatMap cCue)

set_option maxRecDepth 20000 in
set_option maxHeartbeats 8000000 in
theorem l17Draw_any (w : World) (s : Nat) (A : Option Addr) (n c : Nat) (L : List Int) (m : Nat) (h : Src w s A n c L m) (hm : m + 140 ≤ 1000000) :
    Calls Tryz.prog 14 #[.pointer (some ⟨s, 0, none⟩)] w fun e w' => ∃ v, PlD w v w' ∧ e = .returned v ∧ Gx (some s) w w' ∧ Src w' s A n c L (m + 140) := by
  have hsl := h.lt
  have X0 := Lib.hid (Gx.of_G (G.refl w) (some s))
  have H0 := Lib.hid h
  have z0 : w.heap.size ≤ w.heap.size := Nat.le_refl _
  clear h
  have Oq := Lib.hid (own_new (w := w) (base := w.heap.size) (n := 1) (cap := 1) (size := 4) (e := 25) (cur := #[.slice none 0 0, .int .i64 0, .int .i64 0, .bool false]) (by first | omega | (simp; omega) | simp) (by decide) (by decide) rfl)
  replace X0 := Lib.hid (Gx.trans X0.out (Gx.of_G ((G.refl (w)).alloc (.cells #[.slice none 0 0, .int .i64 0, .int .i64 0, .bool false] 25)) (some s)))
  replace H0 := Lib.hid (H0.out.g ((G.refl (w)).alloc (.cells #[.slice none 0 0, .int .i64 0, .int .i64 0, .bool false] 25)))
  go_enter Tryz.func14, Tryz.ntmps14
  have hwq : (w.alloc (.cells #[.slice none 0 0, .int .i64 0, .int .i64 0, .bool false] 25)).heap.size = w.heap.size + 1 := by simp
  go_wp2_with fail
  refine (l13Draw_any _ s A n c L m H0.out (by omega)).mono ?_
  rintro e w1 ⟨bl, cb, M, rfl, hv, g1, h1, o1⟩
  rw [hwq] at o1
  have HV := Lib.hid hv
  have OM := Lib.hid o1
  replace Oq := Lib.hid (own_src Oq.out (by omega) g1)
  have X1 := Lib.hid (Gx.trans X0.out g1)
  have H1 := Lib.hid h1
  have z1 := World.grownBy.size X1.out
  clear g1 h1 o1 hv X0 H0 hwq
  dsimp only
  have hbm := (OM.out.lt bl rfl).1
  obtain ⟨q, HQq⟩ : ∃ q : Nat, Hid (w.heap.size = q) := ⟨_, rfl⟩
  have bq : w.heap.size ≤ q := by rw [← HQq.out]; omega
  rw [HQq.out] at Oq
  rw [HQq.out]
  have hbq : bl ≠ q := by rw [← HQq.out]; omega
  go_wp2_with fail
  refine (pick_any 3 _ s A n c L (m + 120) H1.out (by omega) (by omega)).mono ?_
  rintro e w2 ⟨v2, ⟨y, hy0, hy1, rfl⟩, rfl, g2, h2⟩
  replace Oq := Lib.hid (own_src Oq.out (by omega) g2)
  replace OM := Lib.hid (own_src OM.out (by omega) g2)
  have X2 := Lib.hid (Gx.trans X1.out g2)
  have H2 := Lib.hid h2
  have z2 := World.grownBy.size X2.out
  clear g2 h2 X1 H1
  dsimp only
  obtain ⟨pb, hpb⟩ : ∃ pb : Bool, decide (0 < y) = pb := ⟨_, rfl⟩
  clear hy0 hy1
  have lq := (Oq.out.lt q rfl).2
  have lm := (OM.out.lt bl rfl).2
  have Of := Lib.hid (own_new (w := w2) (base := w.heap.size) (n := 1) (cap := 1) (size := 4) (e := 25) (cur := #[.slice (some ⟨bl, 0, none⟩) M.length cb, .int .i64 0, .int .i64 0, .bool pb]) (by first | omega | (simp; omega) | simp) (by decide) (by decide) rfl)
  replace Oq := Lib.hid (own_G Oq.out ((G.refl (w2)).alloc (.cells #[.slice (some ⟨bl, 0, none⟩) M.length cb, .int .i64 0, .int .i64 0, .bool pb] 25)))
  replace OM := Lib.hid (own_G OM.out ((G.refl (w2)).alloc (.cells #[.slice (some ⟨bl, 0, none⟩) M.length cb, .int .i64 0, .int .i64 0, .bool pb] 25)))
  replace X2 := Lib.hid (Gx.trans X2.out (Gx.of_G ((G.refl (w2)).alloc (.cells #[.slice (some ⟨bl, 0, none⟩) M.length cb, .int .i64 0, .int .i64 0, .bool pb] 25)) (some s)))
  replace H2 := Lib.hid (H2.out.g ((G.refl (w2)).alloc (.cells #[.slice (some ⟨bl, 0, none⟩) M.length cb, .int .i64 0, .int .i64 0, .bool pb] 25)))
  go_wp2_with fail
  have gx := (G.refl (w2.alloc (.cells #[.slice (some ⟨bl, 0, none⟩) M.length cb, .int .i64 0, .int .i64 0, .bool pb] 25))).alloc (.cells #[.int .i64 1000, .int .i64 1000, .int .i64 500, .int .i64 100, .int .i64 4000, .int .i64 1333] 2)
  have HRL := Lib.hid (show Rd ((w2.alloc (.cells #[.slice (some ⟨bl, 0, none⟩) M.length cb, .int .i64 0, .int .i64 0, .bool pb] 25)).alloc (.cells #[.int .i64 1000, .int .i64 1000, .int .i64 500, .int .i64 100, .int .i64 4000, .int .i64 1333] 2)) (some ⟨w2.heap.size + 1, 0, none⟩) 1 iv [1000, 1000, 500, 100, 4000, 1333] by have q := rd_lit (w2.alloc (.cells #[.slice (some ⟨bl, 0, none⟩) M.length cb, .int .i64 0, .int .i64 0, .bool pb] 25)) [1000, 1000, 500, 100, 4000, 1333] 2; rw [show (w2.alloc (.cells #[.slice (some ⟨bl, 0, none⟩) M.length cb, .int .i64 0, .int .i64 0, .bool pb] 25)).heap.size = w2.heap.size + 1 by simp] at q; exact q)
  replace X2 := Lib.hid (Gx.trans X2.out (Gx.of_G gx (some s)))
  replace H2 := Lib.hid (H2.out.g gx)
  replace Oq := Lib.hid (own_G Oq.out gx)
  replace OM := Lib.hid (own_G OM.out gx)
  replace Of := Lib.hid (own_G Of.out gx)
  skip
  refine (among_any (some ⟨w2.heap.size + 1, 0, none⟩) 6 6 [1000, 1000, 500, 100, 4000, 1333] _ s A n c L (m + 122) H2.out (by omega) HRL.out rfl (by omega) (by omega) (fun a ha => by cases ha; simp only; omega)).mono ?_
  rintro e w3 ⟨v3, ⟨r, hr, rfl⟩, rfl, g3, h3⟩
  replace Oq := Lib.hid (own_src Oq.out (by omega) g3)
  replace OM := Lib.hid (own_src OM.out (by omega) g3)
  replace Of := Lib.hid (own_src Of.out (by omega) g3)
  have X3 := Lib.hid (Gx.trans X2.out g3)
  have H3 := Lib.hid h3
  have z3 := World.grownBy.size X3.out
  clear g3 h3 X2 H2
  dsimp only
  clear HRL gx
  have hrb : 100 ≤ r ∧ r ≤ 4000 := by simp only [List.mem_cons, List.not_mem_nil, or_false] at hr; omega
  clear hr hpb
  obtain ⟨f, HQf⟩ : ∃ q : Nat, Hid (w2.heap.size = q) := ⟨_, rfl⟩
  have bf : w.heap.size ≤ f := by rw [← HQf.out]; omega
  rw [HQf.out] at Of
  rw [HQf.out]
  have hne : q ≠ f := by rw [← HQf.out]; omega
  have hbf : bl ≠ f := by rw [← HQf.out]; omega
  have hsf : s < f := by rw [← HQf.out]; omega
  have hcq0 := own_cellAt_mid Oq.out (j := 0) rfl
  have hyq0 := own_frozen_of Oq.out 0
  have hcq1 := own_cellAt_mid Oq.out (j := 1) rfl
  have hyq1 := own_frozen_of Oq.out 1
  have hcq2 := own_cellAt_mid Oq.out (j := 2) rfl
  have hyq2 := own_frozen_of Oq.out 2
  have hcq3 := own_cellAt_mid Oq.out (j := 3) rfl
  have hyq3 := own_frozen_of Oq.out 3
  have hcf0 := own_cellAt_mid Of.out (j := 0) rfl
  have hyf0 := own_frozen_of Of.out 0
  have hcf1 := own_cellAt_mid Of.out (j := 1) rfl
  have hyf1 := own_frozen_of Of.out 1
  have hcf2 := own_cellAt_mid Of.out (j := 2) rfl
  have hyf2 := own_frozen_of Of.out 2
  have hcf3 := own_cellAt_mid Of.out (j := 3) rfl
  have hyf3 := own_frozen_of Of.out 3
  go_wp2_with fail
  clear hcq0 hyq0 hcq1 hyq1 hcq2 hyq2 hcq3 hyq3 hcf0 hyf0 hcf1 hyf1 hcf2 hyf2 hcf3 hyf3
  have S3 := Lib.hid (Of.out.stored 2 (.int .i64 r))
  replace Oq := Lib.hid (own_Gx Oq.out S3.out.2 (.inr (by simp [Value.ownBlock]; omega)))
  replace OM := Lib.hid (own_Gx OM.out S3.out.2 (.inr (by simp [Value.ownBlock]; omega)))
  replace Of := Lib.hid S3.out.1
  replace X3 := Lib.hid (Gx.grown X3.out S3.out.2 (fun k hk => by cases hk; omega))
  replace H3 := Lib.hid (H3.out.grown S3.out.2 (fun k hk => by cases hk; omega))
  clear S3
  have hm9 := vcus_len HV.out
  have hEB := endL_all HV.out
  refine (l13End_any _ M.length _ M _ (rd_own (by decide) cCue_len OM.out) rfl (by omega) HV.out).mono ?_
  rintro e w4 ⟨rfl, g4⟩
  replace Oq := Lib.hid (own_G Oq.out g4)
  replace OM := Lib.hid (own_G OM.out g4)
  replace Of := Lib.hid (own_G Of.out g4)
  have X4 := Lib.hid (Gx.trans X3.out (Gx.of_G g4 (some s)))
  have H4 := Lib.hid (H3.out.g g4)
  have z4 := World.grownBy.size X4.out
  clear g4 X3 H3
  dsimp only
  obtain ⟨en, HEN⟩ : ∃ x, Hid (endL M = x) := ⟨_, rfl⟩
  rw [HEN.out] at hEB
  rw [HEN.out]
  go_wp2_with fail
  refine (l00Min_any en 20000 _).mono ?_
  rintro e w9 ⟨rfl, rfl⟩
  dsimp only
  obtain ⟨mn, HMN⟩ : ∃ x, Hid (min en 20000 = x) := ⟨_, rfl⟩
  have hmn : 0 ≤ mn ∧ mn ≤ en ∧ mn ≤ 20000 := by rw [← HMN.out]; omega
  rw [HMN.out]
  go_wp2_with fail
  refine (pick_any (mn + 1) _ s A n c L (m + 124) H4.out (by omega) (by omega)).mono ?_
  rintro e w5 ⟨v5, ⟨t, ht0, ht1, rfl⟩, rfl, g5, h5⟩
  replace Oq := Lib.hid (own_src Oq.out (by omega) g5)
  replace OM := Lib.hid (own_src OM.out (by omega) g5)
  replace Of := Lib.hid (own_src Of.out (by omega) g5)
  have X5 := Lib.hid (Gx.trans X4.out g5)
  have H5 := Lib.hid h5
  have z5 := World.grownBy.size X5.out
  clear g5 h5 X4 H4
  dsimp only
  have htb : 0 ≤ t ∧ t ≤ en := by omega
  clear ht0 ht1
  go_wp2_with fail
  have gx := (G.refl (w5)).alloc (.cells #[.int .i64 t, .int .i64 t, .int .i64 t, .int .i64 0, .int .i64 en] 2)
  have HRL := Lib.hid (rd_lit w5 [t, t, t, 0, en] 2)
  replace X5 := Lib.hid (Gx.trans X5.out (Gx.of_G gx (some s)))
  replace H5 := Lib.hid (H5.out.g gx)
  replace Oq := Lib.hid (own_G Oq.out gx)
  replace OM := Lib.hid (own_G OM.out gx)
  replace Of := Lib.hid (own_G Of.out gx)
  skip
  refine (among_any (some ⟨w5.heap.size, 0, none⟩) 5 5 [t, t, t, 0, en] _ s A n c L (m + 126) H5.out (by omega) HRL.out rfl (by omega) (by omega) (fun a ha => by cases ha; simp only; omega)).mono ?_
  rintro e w6 ⟨v6, ⟨u, hu, rfl⟩, rfl, g6, h6⟩
  replace Oq := Lib.hid (own_src Oq.out (by omega) g6)
  replace OM := Lib.hid (own_src OM.out (by omega) g6)
  replace Of := Lib.hid (own_src Of.out (by omega) g6)
  have X6 := Lib.hid (Gx.trans X5.out g6)
  have H6 := Lib.hid h6
  have z6 := World.grownBy.size X6.out
  clear g6 h6 X5 H5
  dsimp only
  clear HRL gx
  have hub : 0 ≤ u ∧ u ≤ en := by simp only [List.mem_cons, List.not_mem_nil, or_false] at hu; omega
  clear hu
  have hcq0 := own_cellAt_mid Oq.out (j := 0) rfl
  have hyq0 := own_frozen_of Oq.out 0
  have hcq1 := own_cellAt_mid Oq.out (j := 1) rfl
  have hyq1 := own_frozen_of Oq.out 1
  have hcq2 := own_cellAt_mid Oq.out (j := 2) rfl
  have hyq2 := own_frozen_of Oq.out 2
  have hcq3 := own_cellAt_mid Oq.out (j := 3) rfl
  have hyq3 := own_frozen_of Oq.out 3
  have hcf0 := own_cellAt_mid Of.out (j := 0) rfl
  have hyf0 := own_frozen_of Of.out 0
  have hcf1 := own_cellAt_mid Of.out (j := 1) rfl
  have hyf1 := own_frozen_of Of.out 1
  have hcf2 := own_cellAt_mid Of.out (j := 2) rfl
  have hyf2 := own_frozen_of Of.out 2
  have hcf3 := own_cellAt_mid Of.out (j := 3) rfl
  have hyf3 := own_frozen_of Of.out 3
  go_wp2
  clear hcq0 hyq0 hcq1 hyq1 hcq2 hyq2 hcq3 hyq3 hcf0 hyf0 hcf1 hyf1 hcf2 hyf2 hcf3 hyf3
  have S4 := Lib.hid (Of.out.stored 1 (.int .i64 u))
  replace Oq := Lib.hid (own_Gx Oq.out S4.out.2 (.inr (by simp [Value.ownBlock]; omega)))
  replace OM := Lib.hid (own_Gx OM.out S4.out.2 (.inr (by simp [Value.ownBlock]; omega)))
  replace Of := Lib.hid S4.out.1
  replace X6 := Lib.hid (Gx.grown X6.out S4.out.2 (fun k hk => by cases hk; omega))
  replace H6 := Lib.hid (H6.out.grown S4.out.2 (fun k hk => by cases hk; omega))
  clear S4
  have S5 := Lib.hid (Oq.out.stored 0 (.slice (some ⟨bl, 0, none⟩) M.length cb))
  replace OM := Lib.hid (own_Gx OM.out S5.out.2 (.inr (by simp [Value.ownBlock]; omega)))
  replace Of := Lib.hid (own_Gx Of.out S5.out.2 (.inr (by simp [Value.ownBlock]; omega)))
  replace Oq := Lib.hid S5.out.1
  replace X6 := Lib.hid (Gx.grown X6.out S5.out.2 (fun k hk => by cases hk; omega))
  replace H6 := Lib.hid (H6.out.grown S5.out.2 (fun k hk => by cases hk; omega))
  clear S5
  have S6 := Lib.hid (Oq.out.stored 1 (.int .i64 u))
  replace OM := Lib.hid (own_Gx OM.out S6.out.2 (.inr (by simp [Value.ownBlock]; omega)))
  replace Of := Lib.hid (own_Gx Of.out S6.out.2 (.inr (by simp [Value.ownBlock]; omega)))
  replace Oq := Lib.hid S6.out.1
  replace X6 := Lib.hid (Gx.grown X6.out S6.out.2 (fun k hk => by cases hk; omega))
  replace H6 := Lib.hid (H6.out.grown S6.out.2 (fun k hk => by cases hk; omega))
  clear S6
  have S7 := Lib.hid (Oq.out.stored 2 (.int .i64 r))
  replace OM := Lib.hid (own_Gx OM.out S7.out.2 (.inr (by simp [Value.ownBlock]; omega)))
  replace Of := Lib.hid (own_Gx Of.out S7.out.2 (.inr (by simp [Value.ownBlock]; omega)))
  replace Oq := Lib.hid S7.out.1
  replace X6 := Lib.hid (Gx.grown X6.out S7.out.2 (fun k hk => by cases hk; omega))
  replace H6 := Lib.hid (H6.out.grown S7.out.2 (fun k hk => by cases hk; omega))
  clear S7
  have S8 := Lib.hid (Oq.out.stored 3 (.bool pb))
  replace OM := Lib.hid (own_Gx OM.out S8.out.2 (.inr (by simp [Value.ownBlock]; omega)))
  replace Of := Lib.hid (own_Gx Of.out S8.out.2 (.inr (by simp [Value.ownBlock]; omega)))
  replace Oq := Lib.hid S8.out.1
  replace X6 := Lib.hid (Gx.grown X6.out S8.out.2 (fun k hk => by cases hk; omega))
  replace H6 := Lib.hid (H6.out.grown S8.out.2 (fun k hk => by cases hk; omega))
  clear S8
  have k0 := own_cellAt_mid Oq.out (j := 0) rfl
  have k1 := own_cellAt_mid Oq.out (j := 1) rfl
  have k2 := own_cellAt_mid Oq.out (j := 2) rfl
  have k3 := own_cellAt_mid Oq.out (j := 3) rfl
  have hvp : vplB M u r = true := by unfold vplB; rw [HV.out, HEN.out]; simp only [inB, Bool.true_and, Bool.and_eq_true, decide_eq_true_eq]; omega
  refine bodyPost_ret (v := .agg #[.slice (some ⟨bl, 0, none⟩) M.length cb, .int .i64 u, .int .i64 r, .bool pb]) (by simp [results, Tryz.results14, go_sem, k0, k1, k2, k3]) rfl ⟨_, ⟨bl, cb, M, u, r, pb, rfl, hvp, (own_cap OM.out).1, OM.out.mono (by omega)⟩, rfl, X6.out, H6.out.up (by omega) hm⟩

set_option maxRecDepth 20000 in
set_option maxHeartbeats 8000000 in
theorem R8Player_any (A : Option Addr) (n c : Nat) (L : List Int) (w : World) (h : Code w A n L) (hA : ∀ a, A = some a → L ≠ [] → a.block < w.heap.size) :
    Calls Tryz.prog 4 #[.slice A n c] w fun e w' => ∃ v, PlD w v w' ∧ e = .returned v ∧ G w w' := by
  have hwq : (w.alloc (.cells #[.slice none 0 0, .int .i64 0, .int .i64 0, .bool false] 25)).heap.size = w.heap.size + 1 := by simp
  have GQ := Lib.hid ((G.refl w).alloc (.cells #[.slice none 0 0, .int .i64 0, .int .i64 0, .bool false] 25))
  have OQ := Lib.hid (own_new (w := w) (base := w.heap.size) (n := 1) (cap := 1) (size := 4) (e := 25) (cur := #[.slice none 0 0, .int .i64 0, .int .i64 0, .bool false]) (Nat.le_refl _) (by decide) (by decide) rfl)
  have K := Lib.hid (l00From_any A n c L (w.alloc (.cells #[.slice none 0 0, .int .i64 0, .int .i64 0, .bool false] 25)) (h.g ((G.refl w).alloc _)) (fun a ha hl => by have := hA a ha hl; rw [hwq]; omega))
  rw [hwq] at K
  clear h hA
  go_enter Tryz.func4, Tryz.ntmps4
  go_wp2_with fail
  refine K.out.mono ?_
  rintro e w1 ⟨rfl, g1, hs1, h1⟩
  have G1 := Lib.hid (GQ.out.trans g1)
  have O1 := Lib.hid (own_G OQ.out g1)
  have H1 := Lib.hid h1
  clear g1 h1 K OQ GQ hwq
  dsimp only
  go_wp2_with fail
  refine (l17Draw_any _ (w.heap.size + 1) A n c L 0 H1.out (by omega)).mono ?_
  rintro e w2 ⟨v, ⟨b, cb, M, t, r, p, rfl, hv, hcb, om⟩, rfl, g2, h2⟩
  have OM := Lib.hid om
  have O2 := Lib.hid (own_Gx O1.out g2 (.inr (by simp [Value.ownBlock])))
  have X2 := Lib.hid g2
  have HV := Lib.hid hv
  clear g2 h2 om hv O1 H1
  dsimp only
  have hc0 := own_cellAt_mid O2.out (j := 0) rfl
  have hc1 := own_cellAt_mid O2.out (j := 1) rfl
  have hc2 := own_cellAt_mid O2.out (j := 2) rfl
  have hc3 := own_cellAt_mid O2.out (j := 3) rfl
  have hy0 := own_frozen_of O2.out 0
  have hy1 := own_frozen_of O2.out 1
  have hy2 := own_frozen_of O2.out 2
  have hy3 := own_frozen_of O2.out 3
  go_wp2
  clear hc0 hc1 hc2 hc3 hy0 hy1 hy2 hy3
  have S0 := Lib.hid (O2.out.stored 0 (.slice (some ⟨b, 0, none⟩) M.length cb))
  have S1 := Lib.hid (S0.out.1.stored 1 (.int .i64 t))
  have S2 := Lib.hid (S1.out.1.stored 2 (.int .i64 r))
  have S3 := Lib.hid (S2.out.1.stored 3 (.bool p))
  have ZZ := Lib.hid (Gx.trans (Gx.trans (Gx.trans S0.out.2 S1.out.2) S2.out.2) S3.out.2)
  have OM3 := Lib.hid (own_Gx OM.out ZZ.out (.inr fun e => by have := (OM.out.lt _ e).1; omega))
  have GZ := Lib.hid (Gx.G (Gx.G G1.out X2.out (by intro i hi; cases hi; omega)) ZZ.out (by intro i hi; cases hi; exact Nat.le_refl _))
  have k0 := own_cellAt_mid S3.out.1 (j := 0) rfl
  have k1 := own_cellAt_mid S3.out.1 (j := 1) rfl
  have k2 := own_cellAt_mid S3.out.1 (j := 2) rfl
  have k3 := own_cellAt_mid S3.out.1 (j := 3) rfl
  exact bodyPost_ret (v := .agg #[.slice (some ⟨b, 0, none⟩) M.length cb, .int .i64 t, .int .i64 r, .bool p]) (by simp [results, Tryz.results4, go_sem, k0, k1, k2, k3]) rfl ⟨_, ⟨b, cb, M, t, r, p, rfl, HV.out, hcb, OM3.out.mono (by omega)⟩, rfl, GZ.out⟩
end Go.Proofs.YtecakcgkibemaaaGreatDoor
