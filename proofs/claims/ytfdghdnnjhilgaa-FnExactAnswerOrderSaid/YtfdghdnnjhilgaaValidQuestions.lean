/-
  Walks: valid questions, by both texts.
-/
import Derived.Test.YtfdghdnnjhilgaaStQuestion
import Derived.Test.YtfdghdnnjhilgaaNames
import Derived.Test.YtfdghdnnjhilgaaChk
namespace Go.Proofs.Ytfdghdnnjhilgaa
open Go.RowKit

def vqB (x : SQuestion) : Bool := nameB x.Id && inB x.Arrived 0 40000000 && inB x.Length 1 1800000 && inB x.Priority 1 100
def ltQ (a b : SQuestion) : Bool := ltS a.Id b.Id
def vqs (L : List SQuestion) : Bool := decide (L.length ≤ 16) && chk vqB ltQ L
set_option maxHeartbeats 400000 in
theorem l18Time_any (n : Int) (w : World) :
    Calls Try.prog 69 #[.int .i64 n] w fun e w' => e = .returned (.bool (inB n 0 40000000)) ∧ w = w' := by
  go_enter Try.func69, Try.ntmps69
  go_wp2_with (go_at_call 78; refine (l00In_any _ _ _ _).mono ?_; rintro e w' ⟨rfl, rfl⟩)
  go_ret
  exact ⟨rfl, rfl⟩

set_option maxRecDepth 20000 in
set_option maxHeartbeats 4000000 in
theorem ValidQuestions_any (A : Option Addr) (n c : Nat) (L : List SQuestion) (w : World) (hr : Rd w A 4 cQuestion L) (hn : L.length = n) (hb : n ≤ 4194304) (hwf : ∀ x ∈ L, WfQuestion x) :
    Calls Try.prog 29 #[.slice A n c] w fun e w' => e = .returned (.bool (vqs L)) ∧ G w w' := by
  have Hn := Lib.hid hn
  have HR := Lib.hid hr
  have HW := Lib.hid hwf
  clear hr hn hwf
  by_cases hlim : n ≤ 16
  case neg =>
    have H := Lib.hid (show vqs L = false by unfold vqs; rw [Hn.out, decide_eq_false hlim]; simp)
    go_enter Try.func29, Try.ntmps29
    go_wp2
    go_ret
    exact ⟨ret_bool H.out.symm, G.refl _⟩
  go_enter Try.func29, Try.ntmps29
  go_wp2
  go_loopw [10] (fun i wr => ∃ (k : Nat), k ≤ n ∧ i = .int .i64 k ∧ (List.range k).all (okAt vqB ltQ L) = true ∧ G w wr) (fun i _ => n - (intOf i).toNat)
  case atStart => exact ⟨0, Nat.zero_le _, rfl, rfl, G.refl _⟩
  case round =>
    obtain ⟨k, hk, rfl, ha, hg⟩ := hrel
    have HA := Lib.hid ha
    have G0 := Lib.hid hg
    clear ha hg
    by_cases hlt : k < n
    · obtain ⟨b, o, x, rfl, hx, hc0, hc1, hc2, hc3⟩ := (HR.out.G G0.out).Question (k := k) (by rw [Hn.out]; exact hlt)
      have hwx := HW.out x (List.mem_of_getElem? hx)
      unfold WfQuestion at hwx
      have HX := Lib.hid hx
      clear hx
      have ga0 := cellR (w := wr.alloc (.cells #[.string x.Id, .int .i64 x.Arrived, .int .i64 x.Length, .int .i64 x.Priority] 86)) (a := ⟨wr.heap.size, 0, none⟩) (World.cell?_alloc_at _ _ _ _ rfl)
      have ga1 := cellR (w := wr.alloc (.cells #[.string x.Id, .int .i64 x.Arrived, .int .i64 x.Length, .int .i64 x.Priority] 86)) (a := ⟨wr.heap.size, 1, none⟩) (World.cell?_alloc_at _ _ _ _ rfl)
      have ga2 := cellR (w := wr.alloc (.cells #[.string x.Id, .int .i64 x.Arrived, .int .i64 x.Length, .int .i64 x.Priority] 86)) (a := ⟨wr.heap.size, 2, none⟩) (World.cell?_alloc_at _ _ _ _ rfl)
      have ga3 := cellR (w := wr.alloc (.cells #[.string x.Id, .int .i64 x.Arrived, .int .i64 x.Length, .int .i64 x.Priority] 86)) (a := ⟨wr.heap.size, 3, none⟩) (World.cell?_alloc_at _ _ _ _ rfl)
      have hlt2 : (k : Int) < (n : Int) := by omega
      have hk0 : 0 ≤ (k : Int) := by omega
      cases q0 : nameB x.Id
      · have H := Lib.hid (show vqs L = false by unfold vqs; rw [chk_bad HX.out (show vqB x = false by simp [vqB, q0])]; simp)
        go_wp2
        refine region_quiet_G (by kernel_rfl) (by kernel_rfl) ?_; (repeat (go_big_quiet_step (((first | (go_at_call 67; exact quiet_G_same (IsName_any _ hwx _)) | (go_at_call 56; exact quiet_G_same (within_any _ _ _ _))))))); refine wpQuiet_nil ?_
        intro w2 hg2
        clear ga0 ga1 ga2 ga3
        go_wp2
        go_ret
        exact ⟨ret_bool H.out.symm, (G0.out.alloc _).trans hg2⟩
      · skip
        cases q1 : inB x.Arrived 0 40000000
        · have H := Lib.hid (show vqs L = false by unfold vqs; rw [chk_bad HX.out (show vqB x = false by simp [vqB, q0, q1])]; simp)
          go_wp2
          refine region_quiet_G (by kernel_rfl) (by kernel_rfl) ?_; (repeat (go_big_quiet_step (((first | (go_at_call 67; exact quiet_G_same (IsName_any _ hwx _)) | (go_at_call 56; exact quiet_G_same (within_any _ _ _ _))))))); refine wpQuiet_nil ?_
          intro w2 hg2
          clear ga0 ga1 ga2 ga3
          go_wp2
          go_ret
          exact ⟨ret_bool H.out.symm, (G0.out.alloc _).trans hg2⟩
        · skip
          cases q2 : inB x.Length 1 1800000
          · have H := Lib.hid (show vqs L = false by unfold vqs; rw [chk_bad HX.out (show vqB x = false by simp [vqB, q0, q1, q2])]; simp)
            go_wp2
            refine region_quiet_G (by kernel_rfl) (by kernel_rfl) ?_; (repeat (go_big_quiet_step (((first | (go_at_call 67; exact quiet_G_same (IsName_any _ hwx _)) | (go_at_call 56; exact quiet_G_same (within_any _ _ _ _))))))); refine wpQuiet_nil ?_
            intro w2 hg2
            clear ga0 ga1 ga2 ga3
            go_wp2
            go_ret
            exact ⟨ret_bool H.out.symm, (G0.out.alloc _).trans hg2⟩
          · skip
            cases q3 : inB x.Priority 1 100
            · have H := Lib.hid (show vqs L = false by unfold vqs; rw [chk_bad HX.out (show vqB x = false by simp [vqB, q0, q1, q2, q3])]; simp)
              go_wp2
              refine region_quiet_G (by kernel_rfl) (by kernel_rfl) ?_; (repeat (go_big_quiet_step (((first | (go_at_call 67; exact quiet_G_same (IsName_any _ hwx _)) | (go_at_call 56; exact quiet_G_same (within_any _ _ _ _))))))); refine wpQuiet_nil ?_
              intro w2 hg2
              clear ga0 ga1 ga2 ga3
              go_wp2
              go_ret
              exact ⟨ret_bool H.out.symm, (G0.out.alloc _).trans hg2⟩
            · skip
              have HV := Lib.hid (show vqB x = true by simp [vqB, q0, q1, q2, q3])
              cases k with
              | zero =>
                  simp only [Nat.zero_mul, Nat.add_zero] at hc0 hc1 hc2 hc3
                  go_wp2
                  refine region_quiet_G (by kernel_rfl) (by kernel_rfl) ?_; (repeat (go_big_quiet_step (((first | (go_at_call 67; exact quiet_G_same (IsName_any _ hwx _)) | (go_at_call 56; exact quiet_G_same (within_any _ _ _ _))))))); refine wpQuiet_nil ?_
                  intro w2 hg2
                  have G1 := Lib.hid ((G0.out.alloc _).trans hg2)
                  clear ga0 ga1 ga2 ga3 hg2
                  go_wp2
                  go_roundw
                  case rel => exact ⟨1, by omega, rfl, chk_step HA.out (okAt_first HX.out HV.out), G1.out⟩
                  case measure => simp [intOf]; omega
              | succ j =>
                  obtain ⟨b', o', y, hA', hy, hd0, hd1, hd2, hd3⟩ := (HR.out.G G0.out).Question (k := j) (by rw [Hn.out]; omega)
                  obtain ⟨rfl, rfl⟩ : b = b' ∧ o = o' := by simpa using hA'
                  have HY := Lib.hid hy
                  have gd0 := cellR (w := wr.alloc (.cells #[.string x.Id, .int .i64 x.Arrived, .int .i64 x.Length, .int .i64 x.Priority] 86)) (((G.refl wr).alloc _).cell hd0)
                  have gd1 := cellR (w := wr.alloc (.cells #[.string x.Id, .int .i64 x.Arrived, .int .i64 x.Length, .int .i64 x.Priority] 86)) (((G.refl wr).alloc _).cell hd1)
                  have gd2 := cellR (w := wr.alloc (.cells #[.string x.Id, .int .i64 x.Arrived, .int .i64 x.Length, .int .i64 x.Priority] 86)) (((G.refl wr).alloc _).cell hd2)
                  have gd3 := cellR (w := wr.alloc (.cells #[.string x.Id, .int .i64 x.Arrived, .int .i64 x.Length, .int .i64 x.Priority] 86)) (((G.refl wr).alloc _).cell hd3)
                  clear hy hA' hd0 hd1 hd2 hd3
                  cases hl : ltQ y x
                  · have H := Lib.hid (show vqs L = false by unfold vqs; rw [chk_bad_rel HX.out HY.out hl]; simp)
                    have hl2 : Op.bytesLess y.Id.toList x.Id.toList = false := hl
                    clear hl
                    go_wp2
                    refine region_quiet_G (by kernel_rfl) (by kernel_rfl) ?_; (repeat (go_big_quiet_step (((first | (go_at_call 67; exact quiet_G_same (IsName_any _ hwx _)) | (go_at_call 56; exact quiet_G_same (within_any _ _ _ _))))))); refine wpQuiet_nil ?_
                    intro w2 hg2
                    clear ga0 ga1 ga2 ga3 gd0 gd1 gd2 gd3
                    go_wp2
                    go_ret
                    exact ⟨ret_bool H.out.symm, (G0.out.alloc _).trans hg2⟩
                  · have HL := Lib.hid hl
                    have hl2 : Op.bytesLess y.Id.toList x.Id.toList = true := hl
                    clear hl
                    go_wp2
                    refine region_quiet_G (by kernel_rfl) (by kernel_rfl) ?_; (repeat (go_big_quiet_step (((first | (go_at_call 67; exact quiet_G_same (IsName_any _ hwx _)) | (go_at_call 56; exact quiet_G_same (within_any _ _ _ _))))))); refine wpQuiet_nil ?_
                    intro w2 hg2
                    have G1 := Lib.hid ((G0.out.alloc _).trans hg2)
                    clear ga0 ga1 ga2 ga3 gd0 gd1 gd2 gd3 hg2
                    go_wp2
                    go_roundw
                    case rel => exact ⟨j + 1 + 1, by omega, by go_num, chk_step HA.out (okAt_next HX.out HY.out HV.out HL.out), G1.out⟩
                    case measure => simp [intOf]; omega
    · have hkn : k = n := by omega
      have H := Lib.hid (show vqs L = true by unfold vqs; rw [chk_done HA.out (by rw [Hn.out]; exact hkn), Hn.out]; simp; omega)
      go_wp2
      go_ret
      exact ⟨ret_bool H.out.symm, G0.out⟩

set_option maxRecDepth 20000 in
set_option maxHeartbeats 4000000 in
theorem l18Questions_any (A : Option Addr) (n c : Nat) (L : List SQuestion) (w : World) (hr : Rd w A 4 cQuestion L) (hn : L.length = n) (hb : n ≤ 4194304) (hwf : ∀ x ∈ L, WfQuestion x) :
    Calls Try.prog 65 #[.slice A n c] w fun e w' => e = .returned (.bool (vqs L)) ∧ G w w' := by
  have Hn := Lib.hid hn
  have HR := Lib.hid hr
  have HW := Lib.hid hwf
  clear hr hn hwf
  go_enter Try.func65, Try.ntmps65
  go_wp2
  go_loopw [3] (fun i wr => ∃ (k : Nat), k ≤ n ∧ i = .int .i64 k ∧ (List.range k).all (okAt vqB ltQ L) = true ∧ G w wr) (fun i _ => n - (intOf i).toNat)
  case atStart => exact ⟨0, Nat.zero_le _, rfl, rfl, G.refl _⟩
  case round =>
    obtain ⟨k, hk, rfl, ha, hg⟩ := hrel
    have HA := Lib.hid ha
    have G0 := Lib.hid hg
    clear ha hg
    by_cases hlt : k < n
    · obtain ⟨b, o, x, rfl, hx, hc0, hc1, hc2, hc3⟩ := (HR.out.G G0.out).Question (k := k) (by rw [Hn.out]; exact hlt)
      have hwx := HW.out x (List.mem_of_getElem? hx)
      unfold WfQuestion at hwx
      have HX := Lib.hid hx
      clear hx
      have ga0 := cellR (w := wr.alloc (.cells #[.string x.Id, .int .i64 x.Arrived, .int .i64 x.Length, .int .i64 x.Priority] 86)) (a := ⟨wr.heap.size, 0, none⟩) (World.cell?_alloc_at _ _ _ _ rfl)
      have ga1 := cellR (w := wr.alloc (.cells #[.string x.Id, .int .i64 x.Arrived, .int .i64 x.Length, .int .i64 x.Priority] 86)) (a := ⟨wr.heap.size, 1, none⟩) (World.cell?_alloc_at _ _ _ _ rfl)
      have ga2 := cellR (w := wr.alloc (.cells #[.string x.Id, .int .i64 x.Arrived, .int .i64 x.Length, .int .i64 x.Priority] 86)) (a := ⟨wr.heap.size, 2, none⟩) (World.cell?_alloc_at _ _ _ _ rfl)
      have ga3 := cellR (w := wr.alloc (.cells #[.string x.Id, .int .i64 x.Arrived, .int .i64 x.Length, .int .i64 x.Priority] 86)) (a := ⟨wr.heap.size, 3, none⟩) (World.cell?_alloc_at _ _ _ _ rfl)
      have hlt2 : (k : Int) < (n : Int) := by omega
      have hk0 : 0 ≤ (k : Int) := by omega
      cases q0 : nameB x.Id
      · have H := Lib.hid (show vqs L = false by unfold vqs; rw [chk_bad HX.out (show vqB x = false by simp [vqB, q0])]; simp)
        go_wp2
        refine region_quiet_G (by kernel_rfl) (by kernel_rfl) ?_; (repeat (go_big_quiet_step (((first | (go_at_call 86; exact quiet_G_same (l01Name_any _ hwx _)) | (go_at_call 69; exact quiet_G_same (l18Time_any _ _)) | (go_at_call 78; exact quiet_G_same (l00In_any _ _ _ _))))))); refine wpQuiet_nil ?_
        intro w2 hg2
        clear ga0 ga1 ga2 ga3
        go_wp2
        go_ret
        exact ⟨ret_bool H.out.symm, (G0.out.alloc _).trans hg2⟩
      · skip
        cases q1 : inB x.Arrived 0 40000000
        · have H := Lib.hid (show vqs L = false by unfold vqs; rw [chk_bad HX.out (show vqB x = false by simp [vqB, q0, q1])]; simp)
          go_wp2
          refine region_quiet_G (by kernel_rfl) (by kernel_rfl) ?_; (repeat (go_big_quiet_step (((first | (go_at_call 86; exact quiet_G_same (l01Name_any _ hwx _)) | (go_at_call 69; exact quiet_G_same (l18Time_any _ _)) | (go_at_call 78; exact quiet_G_same (l00In_any _ _ _ _))))))); refine wpQuiet_nil ?_
          intro w2 hg2
          clear ga0 ga1 ga2 ga3
          go_wp2
          go_ret
          exact ⟨ret_bool H.out.symm, (G0.out.alloc _).trans hg2⟩
        · skip
          cases q2 : inB x.Length 1 1800000
          · have H := Lib.hid (show vqs L = false by unfold vqs; rw [chk_bad HX.out (show vqB x = false by simp [vqB, q0, q1, q2])]; simp)
            go_wp2
            refine region_quiet_G (by kernel_rfl) (by kernel_rfl) ?_; (repeat (go_big_quiet_step (((first | (go_at_call 86; exact quiet_G_same (l01Name_any _ hwx _)) | (go_at_call 69; exact quiet_G_same (l18Time_any _ _)) | (go_at_call 78; exact quiet_G_same (l00In_any _ _ _ _))))))); refine wpQuiet_nil ?_
            intro w2 hg2
            clear ga0 ga1 ga2 ga3
            go_wp2
            go_ret
            exact ⟨ret_bool H.out.symm, (G0.out.alloc _).trans hg2⟩
          · skip
            cases q3 : inB x.Priority 1 100
            · have H := Lib.hid (show vqs L = false by unfold vqs; rw [chk_bad HX.out (show vqB x = false by simp [vqB, q0, q1, q2, q3])]; simp)
              go_wp2
              refine region_quiet_G (by kernel_rfl) (by kernel_rfl) ?_; (repeat (go_big_quiet_step (((first | (go_at_call 86; exact quiet_G_same (l01Name_any _ hwx _)) | (go_at_call 69; exact quiet_G_same (l18Time_any _ _)) | (go_at_call 78; exact quiet_G_same (l00In_any _ _ _ _))))))); refine wpQuiet_nil ?_
              intro w2 hg2
              clear ga0 ga1 ga2 ga3
              go_wp2
              go_ret
              exact ⟨ret_bool H.out.symm, (G0.out.alloc _).trans hg2⟩
            · skip
              have HV := Lib.hid (show vqB x = true by simp [vqB, q0, q1, q2, q3])
              cases k with
              | zero =>
                  simp only [Nat.zero_mul, Nat.add_zero] at hc0 hc1 hc2 hc3
                  go_wp2
                  refine region_quiet_G (by kernel_rfl) (by kernel_rfl) ?_; (repeat (go_big_quiet_step (((first | (go_at_call 86; exact quiet_G_same (l01Name_any _ hwx _)) | (go_at_call 69; exact quiet_G_same (l18Time_any _ _)) | (go_at_call 78; exact quiet_G_same (l00In_any _ _ _ _))))))); refine wpQuiet_nil ?_
                  intro w2 hg2
                  have G1 := Lib.hid ((G0.out.alloc _).trans hg2)
                  clear ga0 ga1 ga2 ga3 hg2
                  go_wp2
                  go_roundw
                  case rel => exact ⟨1, by omega, rfl, chk_step HA.out (okAt_first HX.out HV.out), G1.out⟩
                  case measure => simp [intOf]; omega
              | succ j =>
                  obtain ⟨b', o', y, hA', hy, hd0, hd1, hd2, hd3⟩ := (HR.out.G G0.out).Question (k := j) (by rw [Hn.out]; omega)
                  obtain ⟨rfl, rfl⟩ : b = b' ∧ o = o' := by simpa using hA'
                  have HY := Lib.hid hy
                  have gd0 := cellR (w := wr.alloc (.cells #[.string x.Id, .int .i64 x.Arrived, .int .i64 x.Length, .int .i64 x.Priority] 86)) (((G.refl wr).alloc _).cell hd0)
                  have gd1 := cellR (w := wr.alloc (.cells #[.string x.Id, .int .i64 x.Arrived, .int .i64 x.Length, .int .i64 x.Priority] 86)) (((G.refl wr).alloc _).cell hd1)
                  have gd2 := cellR (w := wr.alloc (.cells #[.string x.Id, .int .i64 x.Arrived, .int .i64 x.Length, .int .i64 x.Priority] 86)) (((G.refl wr).alloc _).cell hd2)
                  have gd3 := cellR (w := wr.alloc (.cells #[.string x.Id, .int .i64 x.Arrived, .int .i64 x.Length, .int .i64 x.Priority] 86)) (((G.refl wr).alloc _).cell hd3)
                  clear hy hA' hd0 hd1 hd2 hd3
                  cases hl : ltQ y x
                  · have H := Lib.hid (show vqs L = false by unfold vqs; rw [chk_bad_rel HX.out HY.out hl]; simp)
                    have hl2 : Op.bytesLess y.Id.toList x.Id.toList = false := hl
                    clear hl
                    go_wp2
                    refine region_quiet_G (by kernel_rfl) (by kernel_rfl) ?_; (repeat (go_big_quiet_step (((first | (go_at_call 86; exact quiet_G_same (l01Name_any _ hwx _)) | (go_at_call 69; exact quiet_G_same (l18Time_any _ _)) | (go_at_call 78; exact quiet_G_same (l00In_any _ _ _ _))))))); refine wpQuiet_nil ?_
                    intro w2 hg2
                    clear ga0 ga1 ga2 ga3 gd0 gd1 gd2 gd3
                    go_wp2
                    go_ret
                    exact ⟨ret_bool H.out.symm, (G0.out.alloc _).trans hg2⟩
                  · have HL := Lib.hid hl
                    have hl2 : Op.bytesLess y.Id.toList x.Id.toList = true := hl
                    clear hl
                    go_wp2
                    refine region_quiet_G (by kernel_rfl) (by kernel_rfl) ?_; (repeat (go_big_quiet_step (((first | (go_at_call 86; exact quiet_G_same (l01Name_any _ hwx _)) | (go_at_call 69; exact quiet_G_same (l18Time_any _ _)) | (go_at_call 78; exact quiet_G_same (l00In_any _ _ _ _))))))); refine wpQuiet_nil ?_
                    intro w2 hg2
                    have G1 := Lib.hid ((G0.out.alloc _).trans hg2)
                    clear ga0 ga1 ga2 ga3 gd0 gd1 gd2 gd3 hg2
                    go_wp2
                    go_roundw
                    case rel => exact ⟨j + 1 + 1, by omega, by go_num, chk_step HA.out (okAt_next HX.out HY.out HV.out HL.out), G1.out⟩
                    case measure => simp [intOf]; omega
    · have hkn : k = n := by omega
      have H := Lib.hid (show vqs L = decide (n ≤ 16) by unfold vqs; rw [chk_done HA.out (by rw [Hn.out]; exact hkn), Hn.out]; simp)
      go_wp2
      go_ret
      exact ⟨ret_bool (by rw [H.out]; simp; omega), G0.out⟩

theorem iValidQuestions_any (A : Option Addr) (n c : Nat) (L : List SQuestion) (w : World) (hr : Rd w A 4 cQuestion L) (hn : L.length = n) (hb : n ≤ 4194304) (hwf : ∀ x ∈ L, WfQuestion x) :
    Calls Try.prog 29 #[.slice A n c] w fun e w' => e = .returned (.bool (vqs L)) ∧ G w w' := ValidQuestions_any A n c L w hr hn hb hwf
set_option maxHeartbeats 400000 in
theorem sValidQuestions_any (A : Option Addr) (n c : Nat) (L : List SQuestion) (w : World) (hr : Rd w A 4 cQuestion L) (hn : L.length = n) (hb : n ≤ 4194304) (hwf : ∀ x ∈ L, WfQuestion x) :
    Calls Try.prog 27 #[.slice A n c] w fun e w' => e = .returned (.bool (vqs L)) ∧ G w w' := by
  go_enter Try.func27, Try.ntmps27
  go_wp2_with (go_at_call 65; refine (l18Questions_any A n c L _ hr hn hb hwf).mono ?_; rintro e w1 ⟨rfl, g1⟩)
  go_ret
  exact ⟨rfl, by assumption⟩
end Go.Proofs.Ytfdghdnnjhilgaa
