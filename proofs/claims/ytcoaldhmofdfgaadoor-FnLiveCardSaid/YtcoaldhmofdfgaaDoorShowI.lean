/-
  Walks: the program's showOf.
-/
import Derived.Test.YtcoaldhmofdfgaaDoorShowMath
import Derived.Test.YtcoaldhmofdfgaaDoorExt
namespace Go.Proofs.YtcoaldhmofdfgaaDoor
open Go.RowKit

def heldF (L : List SHold) (r t : Int) (h : SHold) : Bool := (h.At == t) && decide (r < realL L t + h.Length)
theorem heldB_take {L : List SHold} {r t : Int} {k : Nat} (hk : L.length ≤ k) : (L.take k).any (heldF L r t) = heldB L r t := by rw [List.take_of_length_le hk]; rfl
theorem heldB_hit {L : List SHold} {r t : Int} {k : Nat} {x : SHold} (hx : L[k]? = some x) (h1 : (x.At == t) = true) (h2 : r < realL L t + x.Length) : heldB L r t = true := by
  unfold heldB
  rw [List.any_eq_true]
  exact ⟨x, List.mem_of_getElem? hx, by rw [h1]; simp; omega⟩
theorem any_snoc {p : SHold → Bool} {L : List SHold} {k : Nat} {x : SHold} (hx : L[k]? = some x) : (L.take (k + 1)).any p = ((L.take k).any p || p x) := by rw [take_snoc hx, List.any_append]; simp
theorem any_no {p : SHold → Bool} {L : List SHold} {k : Nat} {x : SHold} (hx : L[k]? = some x) (h : (L.take k).any p = false) (hp : p x = false) : (L.take (k + 1)).any p = false := by rw [any_snoc hx, h, hp]; rfl
theorem any_hit {p : SHold → Bool} {L : List SHold} {k : Nat} {x : SHold} (hx : L[k]? = some x) (hp : p x = true) : (L.take (k + 1)).any p = true := by rw [any_snoc hx, hp]; simp
theorem any_old {p : SHold → Bool} {L : List SHold} {k : Nat} {x : SHold} (hx : L[k]? = some x) (h : (L.take k).any p = true) : (L.take (k + 1)).any p = true := by rw [any_snoc hx, h]; rfl
theorem ret_ib {a b : Int} {p q : Bool} (h : a = b) (h2 : p = q) : Ending.returned (.tuple #[.int .i64 a, .bool p]) = .returned (.tuple #[.int .i64 b, .bool q]) := by rw [h, h2]

set_option maxRecDepth 20000 in
set_option maxHeartbeats 8000000 in
theorem showOf_any (A : Option Addr) (n c : Nat) (L : List SHold) (r : Int) (w : World) (hr : Rd w A 2 cHold L) (hn : L.length = n) (hv : vhs L = true) (hr0 : 0 ≤ r) (hr1 : r ≤ 40000000) :
    Calls Tryd.prog 58 #[.slice A n c, .int .i64 r] w fun e w' => e = .returned (.tuple #[.int .i64 (showV L r), .bool (heldB L r (showV L r))]) ∧ G w w' := by
  have hb : n ≤ 16 := by rw [← hn]; exact vhs_len hv
  have Hn := Lib.hid hn
  have HR := Lib.hid hr
  have HV := Lib.hid hv
  clear hr hn hv
  go_enter Tryd.func58, Tryd.ntmps58
  go_wp2
  go_loopw [6, 7] (fun lo hi wr => ∃ a b : Int, 0 ≤ a ∧ a ≤ b ∧ b ≤ 7200000 ∧ lo = .int .i64 a ∧ hi = .int .i64 b ∧ Hid (realL L a ≤ r) ∧ Hid (b < 7200000 → r < realL L (b + 1)) ∧ G w wr) (fun lo hi _ => (intOf hi - intOf lo).toNat)
  case atStart => exact ⟨0, 7200000, by omega, by omega, by omega, rfl, rfl, Lib.hid (by rw [realL_cnt, cntL_none (fun x hx => by have := vhs_mem HV.out hx; omega)]; omega), Lib.hid (by omega), G.refl _⟩
  case round =>
    obtain ⟨a, b, ha, hab, hb7, rfl, rfl, H1, H2, hg⟩ := hrel
    obtain ⟨wo, rfl⟩ : ∃ wo : World, wo = wr := ⟨_, rfl⟩
    have G0 := Lib.hid hg
    clear hg
    by_cases hlt : a < b
    · obtain ⟨q, HQ⟩ : ∃ q, Hid ((a + b + 1).tdiv 2 = q) := ⟨_, rfl⟩
      have hq := HQ.out
      have hq2 : (a + b + 1) / 2 = q := by rw [← hq, Int.tdiv_eq_ediv_of_nonneg (by omega)]
      have hq3 : a < q := by omega
      have hq4 : q ≤ b := by omega
      have K := Lib.hid (realOf_any A n c L q wo (HR.out.G G0.out) Hn.out HV.out (by omega) (by omega))
      by_cases hle : realL L q ≤ r
      · have H3 := Lib.hid hle
        go_wp2_with (go_at_call 59; refine K.out.mono ?_; rintro e w1 ⟨rfl, g1⟩)
        go_roundw
        case rel => exact ⟨q, b, by omega, by omega, by omega, rfl, rfl, H3, H2, G0.out.trans (by assumption)⟩
        case measure => simp [intOf]; omega
      · have H3 := Lib.hid (show q - 1 < 7200000 → r < realL L (q - 1 + 1) by intro _; rw [Int.sub_add_cancel]; omega)
        go_wp2_with (go_at_call 59; refine K.out.mono ?_; rintro e w1 ⟨rfl, g1⟩)
        go_roundw
        case rel => exact ⟨a, q - 1, by omega, by omega, by omega, rfl, rfl, H1, H3, G0.out.trans (by assumption)⟩
        case measure => simp [intOf]; omega
    · have HW := Lib.hid (showV_eq HV.out (r := r) (t := a) ⟨ha, by omega, H1.out, fun h => by have := H2.out (by omega); rw [show b + 1 = a + 1 by omega] at this; exact this⟩)
      go_wp2
      go_loopw [29] (fun i wr => ∃ k : Nat, k ≤ n ∧ i = .int .i64 k ∧ (L.take k).any (heldF L r a) = false ∧ G w wr) (fun i _ => n - (intOf i).toNat)
      case atStart => exact ⟨0, Nat.zero_le _, rfl, by simp, G0.out⟩
      case round =>
        obtain ⟨k, hk, rfl, hl, hg⟩ := hrel
        have HL := Lib.hid hl
        have G1 := Lib.hid hg
        clear hl hg
        by_cases hlk : k < n
        · obtain ⟨bb, oo, x, rfl, hx, hc0, hc1⟩ := (HR.out.G G1.out).Hold (k := k) (by rw [Hn.out]; exact hlk)
          have HX := Lib.hid hx
          have hxb := vhs_at HV.out hx
          have hrb := realL_take HV.out n a
          rw [List.take_of_length_le (by rw [Hn.out]; omega)] at hrb
          clear hx
          have gx0 := cellR (w := wr.alloc (.cells #[.int .i64 x.At, .int .i64 x.Length] 54)) (a := ⟨wr.heap.size, 0, none⟩) (World.cell?_alloc_at _ _ _ _ rfl)
          have gx1 := cellR (w := wr.alloc (.cells #[.int .i64 x.At, .int .i64 x.Length] 54)) (a := ⟨wr.heap.size, 1, none⟩) (World.cell?_alloc_at _ _ _ _ rfl)
          have K := Lib.hid (fun (d : Nat) (os : Array Obj) => realOf_any (some ⟨bb, oo, none⟩) n c L a (Sort.grow (redrawn (wr.alloc (.cells #[.int .i64 x.At, .int .i64 x.Length] 54)) d) os) (HR.out.G ((G1.out.alloc _).trans (G.regrown _ d os))) Hn.out HV.out (by omega) (by omega))
          by_cases hq : x.At = a
          · have hd : (x.At == a) = true := by simpa using hq
            clear hq
            have hwr : IntKind.i64.wrap (realL L a + x.Length) = realL L a + x.Length := IntWalk.i64_in _ (by omega)
            by_cases hin : r < realL L a + x.Length
            · have H3 := Lib.hid (heldB_hit HX.out hd hin)
              go_wp2
              refine region_quiet_G (by kernel_rfl) (by kernel_rfl) ?_; (repeat (go_big_quiet_step (((go_at_call 59; exact quiet_G (K.out _ _)))))); refine wpQuiet_nil ?_
              intro w2 g2
              clear K gx0 gx1
              go_wp2
              go_ret2
              exact ⟨ret_ib HW.out.symm (by rw [HW.out, H3.out]), (G1.out.alloc _).trans g2⟩
            · have H3 := Lib.hid (any_no HX.out HL.out (by simp [heldF]; omega))
              go_wp2
              refine region_quiet_G (by kernel_rfl) (by kernel_rfl) ?_; (repeat (go_big_quiet_step (((go_at_call 59; exact quiet_G (K.out _ _)))))); refine wpQuiet_nil ?_
              intro w2 g2
              clear K gx0 gx1
              go_wp2
              go_roundw
              case rel => exact ⟨k + 1, by omega, by go_num, H3.out, (G1.out.alloc _).trans g2⟩
              case measure => simp [intOf]; omega
          · have hd : (x.At == a) = false := by simpa using hq
            have H3 := Lib.hid (any_no HX.out HL.out (by simp [heldF, hd]))
            go_wp2
            refine region_quiet_G (by kernel_rfl) (by kernel_rfl) ?_; (repeat (go_big_quiet_step (((go_at_call 59; exact quiet_G (K.out _ _)))))); refine wpQuiet_nil ?_
            intro w2 g2
            clear K gx0 gx1
            go_wp2
            go_roundw
            case rel => exact ⟨k + 1, by omega, by go_num, H3.out, (G1.out.alloc _).trans g2⟩
            case measure => simp [intOf]; omega
        · have H3 := Lib.hid (show heldB L r a = false by rw [← heldB_take (k := k) (by rw [Hn.out]; omega)]; exact HL.out)
          go_wp2
          go_ret2
          exact ⟨ret_ib HW.out.symm (by rw [HW.out, H3.out]), G1.out⟩

end Go.Proofs.YtcoaldhmofdfgaaDoor
