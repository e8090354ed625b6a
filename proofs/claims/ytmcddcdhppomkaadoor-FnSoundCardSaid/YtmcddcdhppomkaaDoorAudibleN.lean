/-
  Walks: AudibleChannels, by both texts.
-/
import Derived.Test.YtmcddcdhppomkaaDoorChannels
import Derived.Test.YtmcddcdhppomkaaDoorStrs
namespace Go.Proofs.YtmcddcdhppomkaaDoor
open Go.RowKit

def audL (L : List SChannel) : List ByteArray := (L.filter fun x => !x.Muted).map (·.Name)
def audR (L : List SChannel) : List ByteArray × Int := if vcs L = false then ([], 1) else (audL L, 0)
theorem audL_snoc {L : List SChannel} {k : Nat} {x : SChannel} (hx : L[k]? = some x) : audL (L.take (k + 1)) = audL (L.take k) ++ (if x.Muted = true then [] else [x.Name]) := by
  unfold audL
  rw [take_snoc hx, List.filter_append, List.map_append]
  cases h : x.Muted <;> simp [h]
theorem vcs_lenA {L : List SChannel} (h : vcs L = true) : L.length ≤ 8 := by simp only [vcs, Bool.and_eq_true, decide_eq_true_eq] at h; exact h.1
theorem audL_len (L : List SChannel) : (audL L).length ≤ L.length := by
  unfold audL
  rw [List.length_map]
  exact List.length_filter_le _ _
theorem audR_len (L : List SChannel) : (audR L).1.length ≤ 512 := by
  unfold audR
  split
  · simp
  · rename_i h
    have h1 := vcs_lenA (L := L) (by simpa using h)
    have h2 := audL_len L
    simp only; omega

set_option maxRecDepth 20000 in
set_option maxHeartbeats 2000000 in
theorem iAudibleChannels_any (A : Option Addr) (n c : Nat) (L : List SChannel) (w : World) (hr : Rd w A 4 cChannel L) (hn : L.length = n) (hb : n ≤ 4194304) (hwf : ∀ x ∈ L, WfChannel x) :
    Calls Tryd.prog 15 #[.slice A n c] w (Res w 9 1 sv (audR L)) := by
  obtain ⟨i0, hi, hz0, hz1, hz2⟩ := info_parts infoString
  have HI := Lib.hid (And.intro hi (And.intro hz0 (And.intro hz1 hz2)))
  clear hi hz0 hz1 hz2
  have K := Lib.hid (ValidChannels_any A n c L w hr hn hb hwf)
  have Hn := Lib.hid hn
  have HR := Lib.hid hr
  clear hr hn hwf
  cases hv : vcs L
  · have H := Lib.hid (show audR L = ([], 1) by unfold audR; rw [if_pos hv])
    rw [hv] at K
    clear hv
    go_enter Tryd.func15, Tryd.ntmps15
    go_wp2_with (go_at_call 33; refine K.out.mono ?_; rintro e w1 ⟨rfl, g1⟩; have G1 := Lib.hid g1; clear g1)
    go_ret2
    exact res_nil H.out G1.out
  rw [hv] at K
  have H := Lib.hid (show audR L = (audL L, 0) by unfold audR; rw [if_neg (by rw [hv]; simp)])
  have hn8 := vcs_lenA hv
  rw [Hn.out] at hn8
  clear hv
  go_enter Tryd.func15, Tryd.ntmps15
  go_wp2_with (go_at_call 33; refine K.out.mono ?_; rintro e w1 ⟨rfl, g1⟩; have G1 := Lib.hid g1; clear g1)
  clear K
  go_loopw [4, 12] (fun v i wr => ∃ (k m : Nat), k ≤ n ∧ i = .int .i64 k ∧ m ≤ k ∧ Hid ((audL (L.take k)).length = m) ∧ Hid (wr.ownsRow w.heap.size 9 1 v m ((audL (L.take k)).flatMap sv)) ∧ Hid (G w wr)) (fun _ i _ => n - (intOf i).toNat)
  case atStart => exact ⟨0, 0, Nat.zero_le _, rfl, Nat.le_refl _, Lib.hid rfl, Lib.hid (World.ownsRow_nil _ _ _ _), G1⟩
  case round =>
    obtain ⟨k, m, hk, rfl, hmk, HM, HO1, G0⟩ := hrel
    have hsz := G0.out.size
    by_cases hlt : k < n
    · obtain ⟨b, o, x, rfl, hx, hc0, hc1, hc2, hc3⟩ := (HR.out.G G0.out).Channel (k := k) (by rw [Hn.out]; exact hlt)
      have HS := Lib.hid (audL_snoc hx)
      clear hx
      cases hm : x.Muted
      · have HS2 := Lib.hid (show audL (L.take (k + 1)) = audL (L.take k) ++ [x.Name] by rw [HS.out, hm]; rfl)
        rw [hm] at hc3
        clear hm
        go_wp2_with (at_builtin; refine wpList_append_own _ rfl (.tmp 19) (.tmp 22) 40 rfl w.heap.size 9 i0 (.string ⟨#[]⟩) 1 16 Tryd.underlying40 HI.out.1 HI.out.2.1 HI.out.2.2.1 HI.out.2.2.2 rfl (by decide) _ m _ rfl ((HO1.out.alloc _).alloc _) ⟨wr.heap.size + 1, 0, none⟩ 1 1 [.string x.Name] rfl rfl ?c4 (str_oneCell x.Name) ?c1 ?c2 ?c3 ?_)
        case c1 => unfold maxLen; omega
        case c2 => omega
        case c3 => first | omega | (simp; omega)
        case c4 => exact (by have := block_news (wr.alloc (.cells #[.string x.Name, .int .i64 x.Gain, .int .i64 x.Pan, .bool false] 35)) [.string x.Name] 9; simpa using this)
        intro v' w1 hown hgrow _
        have HO2 := Lib.hid (show w1.ownsRow w.heap.size 9 1 v' (m + 1) ((audL (L.take (k + 1))).flatMap sv) by rw [HS2.out, List.flatMap_append]; simpa [sv] using hown)
        have G2 := Lib.hid (((G0.out.alloc _).alloc _).grown hgrow (own_block_of HO1.out))
        clear hown hgrow
        go_wp2
        go_roundw
        case rel => exact ⟨k + 1, m + 1, by omega, by go_num, by omega, Lib.hid (by rw [HS2.out, List.length_append, HM.out]; rfl), HO2, G2⟩
        case measure => simp [intOf]; omega
      · have HS2 := Lib.hid (show audL (L.take (k + 1)) = audL (L.take k) by rw [HS.out, hm]; simp)
        rw [hm] at hc3
        clear hm
        go_wp2
        go_roundw
        case rel => exact ⟨k + 1, m, by omega, by go_num, by omega, Lib.hid (by rw [HS2.out]; exact HM.out), Lib.hid (by rw [HS2.out]; exact HO1.out.alloc _), Lib.hid (G0.out.alloc _)⟩
        case measure => simp [intOf]; omega
    · have HTK := Lib.hid (show L.take k = L from List.take_of_length_le (by rw [Hn.out]; omega))
      rw [HTK.out] at HM HO1
      go_wp2
      go_ret2
      exact res_own H.out HM.out HO1.out G0.out

end Go.Proofs.YtmcddcdhppomkaaDoor
