/-
  Walks: NextQuestion, by both texts.
-/
import Derived.Test.YtfdghdnnjhilgaaNext
namespace Go.Proofs.Ytfdghdnnjhilgaa
open Go.RowKit

def nxQ (L : List SQuestion) (now : Int) : Int := nxt L (fun _ => false) now L.length
def nxR (L : List SQuestion) (now : Int) : Int × Int := if vqs L = false then (0, 1) else if nxQ L now < 0 then (0, 3) else (nxQ L now, 0)
theorem gB_none (n : Nat) : gB (List.replicate n false) = fun _ => false := by
  funext k; unfold gB; rw [List.getD_eq_getElem?_getD, List.getElem?_replicate]; split <;> rfl
theorem gI_none : gI [] = fun _ => false := rfl
theorem infoBool : (Try.prog.info? 4).map (fun i => (i.zero, i.size, i.bytes)) = some (some (.bool false), 1, 1) := by kernel_rfl
theorem flat_false (n : Nat) : (madeCells (Value.bool false).cells (n * 1)).toList = (List.replicate n false).flatMap bv := by
  rw [show (Value.bool false).cells = #[.bool false] from rfl, toList_madeCells_one, Nat.mul_one]
  induction n with
  | zero => rfl
  | succ n ih => rw [List.replicate_succ, List.replicate_succ, List.flatMap_cons, ← ih]; rfl
theorem rd_false {w : World} {b n c base T : Nat} (h : w.ownsRow base T 1 (.slice (some ⟨b, 0, none⟩) n c) n (madeCells (Value.bool false).cells (n * 1)).toList) : Rd w (some ⟨b, 0, none⟩) 1 bv (List.replicate n false) := by
  rw [flat_false] at h
  exact rd_own Nat.one_pos (fun _ => rfl) h

set_option maxRecDepth 20000 in
set_option maxHeartbeats 1000000 in
theorem iNextQuestion_any (A : Option Addr) (n c : Nat) (L : List SQuestion) (now : Int) (w : World) (hr : Rd w A 4 cQuestion L) (hn : L.length = n) (hb : n ≤ 4194304) (hwf : ∀ x ∈ L, WfQuestion x) :
    Calls Try.prog 40 #[.slice A n c, .int .i64 now] w fun e w' => e = .returned (.tuple #[.int .i64 (nxR L now).1, .int .i64 (nxR L now).2]) ∧ G w w' := by
  obtain ⟨i0, hi, hz0, hz1, hz2⟩ := info_parts infoBool
  have HI := Lib.hid (And.intro hi (And.intro hz0 (And.intro hz1 hz2)))
  clear hi hz0 hz1 hz2
  have K := Lib.hid (ValidQuestions_any A n c L w hr hn hb hwf)
  have Hn := Lib.hid hn
  have HR := Lib.hid hr
  clear hr hn hwf
  cases hv : vqs L
  · have H := Lib.hid (show nxR L now = (0, 1) by unfold nxR; rw [if_pos hv])
    rw [hv] at K
    clear hv
    go_enter Try.func40, Try.ntmps40
    go_wp2_with (go_at_call 29; refine K.out.mono ?_; rintro e w1 ⟨rfl, g1⟩)
    go_ret2
    exact ⟨ret_ii H.out, g1⟩
  rw [hv] at K
  have HF := Lib.hid (show nxR L now = if nxQ L now < 0 then (0, 3) else (nxQ L now, 0) by unfold nxR; rw [if_neg (by rw [hv]; simp)])
  clear hv
  have HQ := Lib.hid (show nxt L (gB (List.replicate n false)) now n = nxQ L now by rw [gB_none, nxQ, Hn.out])
  obtain ⟨v, HV⟩ : ∃ v, Hid (nxQ L now = v) := ⟨_, rfl⟩
  rw [HV.out] at HQ HF
  have KN := Lib.hid (fun (w2 : World) (b : Nat) (g : G w w2) (h : w2.ownsRow b 4 1 (.slice (some ⟨b, 0, none⟩) n n) n (madeCells (Value.bool false).cells (n * 1)).toList) => nextQuestion_any A n c L (some ⟨b, 0, none⟩) n (List.replicate n false) now w2 (HR.out.G g) Hn.out hb (rd_false h) (by simp))
  rw [HQ.out] at KN
  by_cases h0 : v < 0
  · have H := Lib.hid (show nxR L now = (0, 3) by rw [HF.out, if_pos h0])
    go_enter Try.func40, Try.ntmps40
    go_wp2_with (first | (go_at_call 29; refine K.out.mono ?_; rintro e w1 ⟨rfl, g1⟩; have G1 := Lib.hid g1; clear g1) | (refine wpList_make_full _ rfl _ _ 97 rfl w1.heap.size 4 i0 (.bool false) 1 Try.underlying97 HI.out.1 HI.out.2.1 HI.out.2.2.1 .i64 .i64 _ _ n rfl rfl rfl rfl (by rw [HI.out.2.2.2]; omega) (by unfold maxLen; omega) (Nat.le_refl _) ?_; intro w2 hown hgrow; have HO := Lib.hid hown; have G2 := Lib.hid (G1.out.grown hgrow (by simp)); clear hown hgrow) | (go_at_call 77; refine (KN.out _ _ G2.out HO.out).mono ?_; rintro e w3 ⟨rfl, g3⟩; have G3 := Lib.hid (G2.out.trans g3); clear g3))
    go_ret2
    exact ⟨ret_ii H.out, G3.out⟩
  · have H := Lib.hid (show nxR L now = (v, 0) by rw [HF.out, if_neg h0])
    go_enter Try.func40, Try.ntmps40
    go_wp2_with (first | (go_at_call 29; refine K.out.mono ?_; rintro e w1 ⟨rfl, g1⟩; have G1 := Lib.hid g1; clear g1) | (refine wpList_make_full _ rfl _ _ 97 rfl w1.heap.size 4 i0 (.bool false) 1 Try.underlying97 HI.out.1 HI.out.2.1 HI.out.2.2.1 .i64 .i64 _ _ n rfl rfl rfl rfl (by rw [HI.out.2.2.2]; omega) (by unfold maxLen; omega) (Nat.le_refl _) ?_; intro w2 hown hgrow; have HO := Lib.hid hown; have G2 := Lib.hid (G1.out.grown hgrow (by simp)); clear hown hgrow) | (go_at_call 77; refine (KN.out _ _ G2.out HO.out).mono ?_; rintro e w3 ⟨rfl, g3⟩; have G3 := Lib.hid (G2.out.trans g3); clear g3))
    go_ret2
    exact ⟨ret_ii H.out, G3.out⟩

set_option maxRecDepth 20000 in
set_option maxHeartbeats 1000000 in
theorem sNextQuestion_any (A : Option Addr) (n c : Nat) (L : List SQuestion) (now : Int) (w : World) (hr : Rd w A 4 cQuestion L) (hn : L.length = n) (hb : n ≤ 4194304) (hwf : ∀ x ∈ L, WfQuestion x) :
    Calls Try.prog 39 #[.slice A n c, .int .i64 now] w fun e w' => e = .returned (.tuple #[.int .i64 (nxR L now).1, .int .i64 (nxR L now).2]) ∧ G w w' := by
  have K := Lib.hid (l18Questions_any A n c L w hr hn hb hwf)
  have Hn := Lib.hid hn
  have HR := Lib.hid hr
  clear hr hn hwf
  cases hv : vqs L
  · have H := Lib.hid (show nxR L now = (0, 1) by unfold nxR; rw [if_pos hv])
    rw [hv] at K
    clear hv
    go_enter Try.func39, Try.ntmps39
    go_wp2_with (go_at_call 65; refine K.out.mono ?_; rintro e w1 ⟨rfl, g1⟩)
    go_ret2
    exact ⟨ret_ii H.out, g1⟩
  rw [hv] at K
  have HF := Lib.hid (show nxR L now = if nxQ L now < 0 then (0, 3) else (nxQ L now, 0) by unfold nxR; rw [if_neg (by rw [hv]; simp)])
  clear hv
  have HQ := Lib.hid (show nxt L (gI []) now n = nxQ L now by rw [gI_none, nxQ, Hn.out])
  obtain ⟨v, HV⟩ : ∃ v, Hid (nxQ L now = v) := ⟨_, rfl⟩
  rw [HV.out] at HQ HF
  have KN := Lib.hid (fun (w2 : World) (A2 : Option Addr) (c2 : Nat) (g : G w w2) => l18Next_any A n c L A2 0 c2 [] now w2 (HR.out.G g) Hn.out hb (Rd.nil _ _ _ _) rfl (by omega))
  rw [HQ.out] at KN
  by_cases h0 : v < 0
  · have H := Lib.hid (show nxR L now = (0, 3) by rw [HF.out, if_pos h0])
    go_enter Try.func39, Try.ntmps39
    go_wp2_with (first | (go_at_call 65; refine K.out.mono ?_; rintro e w1 ⟨rfl, g1⟩; have G1 := Lib.hid g1; clear g1) | (go_at_call 76; refine (KN.out _ _ _ (G1.out.alloc _)).mono ?_; rintro e w3 ⟨rfl, g3⟩; have G3 := Lib.hid ((G1.out.alloc _).trans g3); clear g3))
    go_ret2
    exact ⟨ret_ii H.out, G3.out⟩
  · have H := Lib.hid (show nxR L now = (v, 0) by rw [HF.out, if_neg h0])
    go_enter Try.func39, Try.ntmps39
    go_wp2_with (first | (go_at_call 65; refine K.out.mono ?_; rintro e w1 ⟨rfl, g1⟩; have G1 := Lib.hid g1; clear g1) | (go_at_call 76; refine (KN.out _ _ _ (G1.out.alloc _)).mono ?_; rintro e w3 ⟨rfl, g3⟩; have G3 := Lib.hid ((G1.out.alloc _).trans g3); clear g3))
    go_ret2
    exact ⟨ret_ii H.out, G3.out⟩
end Go.Proofs.Ytfdghdnnjhilgaa
