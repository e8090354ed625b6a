/-
  Walks: LoudnessOf, by both texts.
-/
import Derived.Test.YtmcddcdhppomkaaDoorRoot
import Derived.Test.YtmcddcdhppomkaaDoorHeadroom
import Derived.BigQuiet
namespace Go.Proofs.YtmcddcdhppomkaaDoor
open Go.RowKit

def sqL (L : List Int) : Int := L.foldl (fun s x => s + x * x) 0
theorem sqL_snoc (L : List Int) (x : Int) : sqL (L ++ [x]) = sqL L + x * x := by unfold sqL; simp
theorem sq_bd2 {x : Int} (h : -32767 ≤ x ∧ x ≤ 32767) : 0 ≤ x * x ∧ x * x ≤ 1073676289 := by
  rcases Int.le_total 0 x with h0 | h0
  · have := sq_bd (R := 32767) h0 h.2; omega
  · have := sq_bd (r := -x) (R := 32767) (by omega) (by omega)
    rw [Int.neg_mul_neg] at this; omega
theorem sqL_bd {L : List Int} (h : L.all okS = true) : 0 ≤ sqL L ∧ sqL L ≤ 1073676289 * L.length := by
  have : ∀ (L : List Int) (m : Int), 0 ≤ m → L.all okS = true → m ≤ L.foldl (fun s x => s + x * x) m ∧ L.foldl (fun s x => s + x * x) m ≤ m + 1073676289 * L.length := by
    intro L
    induction L with
    | nil => intro m h0 _; exact ⟨Int.le_refl _, by simp⟩
    | cons y L ih =>
      intro m h0 h
      simp only [List.all_cons, Bool.and_eq_true] at h
      have hs := sq_bd2 (okS_bd h.1)
      have h1 := ih (m + y * y) (by omega) h.2
      simp only [List.foldl_cons, List.length_cons]
      obtain ⟨z, hz⟩ : ∃ z, List.foldl (fun s x => s + x * x) (m + y * y) L = z := ⟨_, rfl⟩
      rw [hz] at h1 ⊢
      omega
  have h1 := this L 0 (by omega) h
  unfold sqL
  omega
def loudR (L : List Int) : Int × Int := if vs L then (if L.length = 0 then (0, 6) else ((rtN (sqL L / L.length).toNat : Nat), 0)) else (0, 1)
theorem loud_q {L : List Int} (h : L.all okS = true) (h0 : L.length ≠ 0) : 0 ≤ sqL L / L.length ∧ sqL L / L.length < 1073741824 := by
  have hb := sqL_bd h
  refine ⟨Int.ediv_nonneg hb.1 (by omega), Int.ediv_lt_of_lt_mul (by omega) ?_⟩
  have : (1073741824 : Int) * L.length = 1073676289 * L.length + 65535 * L.length := by rw [← Int.add_mul]; rfl
  have : (1 : Int) ≤ L.length := by omega
  omega
theorem iRoot_int (z : Int) (w : World) (h0 : 0 ≤ z) (h1 : z < 1073741824) :
    Calls Tryd.prog 27 #[.int .i64 z] w fun e w' => e = .returned (.int .i64 (rtN z.toNat : Nat)) ∧ w = w' := by
  obtain ⟨a, rfl⟩ := Int.eq_ofNat_of_zero_le h0
  exact iRoot_any a w (by omega)
set_option maxRecDepth 20000 in
set_option maxHeartbeats 2000000 in
theorem iLoudnessOf_any (A : Option Addr) (n c : Nat) (L : List Int) (w : World) (hr : Rd w A 1 iv L) (hn : L.length = n) (hb : n ≤ 4194304) :
    Calls Tryd.prog 9 #[.slice A n c] w fun e w' => e = .returned (.tuple #[.int .i64 (loudR L).1, .int .i64 (loudR L).2]) ∧ G w w' := by
  have KV := Lib.hid (validSamples_any A n c L w hr hn hb)
  have Hn := Lib.hid hn
  have HR := Lib.hid hr
  clear hr
  cases hv : vs L
  · have HD := Lib.hid (show loudR L = (0, 1) by simp [loudR, hv])
    clear hn
    have HV := Lib.hid hv
    clear hv
    go_enter Tryd.func9, Tryd.ntmps9
    go_wp2_with (go_at_call 21; refine (KV.out).mono ?_; rintro e w' ⟨rfl, rfl⟩; rw [HV.out])
    go_ret2
    exact ⟨ret_ii HD.out, G.refl _⟩
  have ha := vs_all hv
  by_cases h0 : n = 0
  · have HD := Lib.hid (show loudR L = (0, 6) by unfold loudR; rw [hv, hn, h0]; rfl)
    clear hn
    have HV := Lib.hid hv
    clear hv ha
    subst h0
    go_enter Tryd.func9, Tryd.ntmps9
    go_wp2_with (go_at_call 21; refine (KV.out).mono ?_; rintro e w' ⟨rfl, rfl⟩; rw [HV.out])
    go_ret2
    exact ⟨ret_ii HD.out, G.refl _⟩
  · have hq := loud_q ha.2 (by omega)
    obtain ⟨S, HS⟩ : ∃ S, Hid (sqL L = S) := ⟨_, rfl⟩
    have hS := sqL_bd ha.2
    rw [HS.out, hn] at hq hS
    have h64 : n ≤ 64 := by rw [← hn]; exact ha.1
    have HD := Lib.hid (show loudR L = ((((rtN (S / (n : Int)).toNat : Nat) : Int), (0 : Int)) : Int × Int) by unfold loudR; rw [hv, hn, HS.out, if_neg h0]; rfl)
    have KR := Lib.hid (fun W => iRoot_int (S / (n : Int)) W hq.1 hq.2)
    have HA := Lib.hid ha.2
    have HV := Lib.hid hv
    clear hv ha hn
    have hn2 : (n : Int) ≠ 0 := by omega
    have hn3 : ¬ (n : Int) < 0 := by omega
    go_enter Tryd.func9, Tryd.ntmps9
    go_wp2_with (go_at_call 21; refine (KV.out).mono ?_; rintro e w' ⟨rfl, rfl⟩; rw [HV.out])
    go_loopw [15, 4] (fun i m wr => ∃ k : Nat, k ≤ n ∧ i = .int .i64 k ∧ m = .int .i64 (sqL (L.take k)) ∧ G w wr) (fun i _ _ => n - (intOf i).toNat)
    case atStart => exact ⟨0, Nat.zero_le _, rfl, by simp [sqL], G.refl _⟩
    case round =>
      obtain ⟨k, hk, rfl, rfl, hg⟩ := hrel
      have G0 := Lib.hid hg
      clear hg
      by_cases hlt : k < n
      · obtain ⟨b, o, x, rfl, hx, hc⟩ := (HR.out.G G0.out).int (k := k) (by rw [Hn.out]; exact hlt)
        have HP := Lib.hid (show sqL (L.take (k + 1)) = sqL (L.take k) + x * x by rw [take_snoc hx, sqL_snoc])
        have hxb := okS_bd (all_at HA.out hx)
        have hx2 := sq_bd2 hxb
        have hm := sqL_bd (all_take HA.out k)
        rw [show (L.take k).length = k by rw [List.length_take, Hn.out]; omega] at hm
        clear hx
        obtain ⟨m, HM⟩ : ∃ m, Hid (sqL (L.take k) = m) := ⟨_, rfl⟩
        rw [HM.out] at hm ⊢
        go_wp2
        go_roundw
        case rel => exact ⟨k + 1, by omega, by go_num, by rw [HP.out, HM.out], G0.out⟩
        case measure => simp [intOf]; omega
      · have HK := Lib.hid (show sqL (L.take k) = S by rw [List.take_of_length_le (by rw [Hn.out]; omega), HS.out])
        rw [HK.out]
        go_wp2_with (go_at_call 27; refine (KR.out _).mono ?_; rintro e w' ⟨rfl, rfl⟩)
        go_ret2
        exact ⟨ret_ii HD.out, G0.out⟩

end Go.Proofs.YtmcddcdhppomkaaDoor
