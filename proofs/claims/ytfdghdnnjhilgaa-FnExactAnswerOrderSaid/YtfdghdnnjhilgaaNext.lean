/-
  Walks: the question that is next, by both texts.
-/
import Derived.Test.YtfdghdnnjhilgaaValidQuestions
import Derived.Test.YtfdghdnnjhilgaaRes
import Derived.Deep.DrawnRows
namespace Go.Proofs.Ytfdghdnnjhilgaa
open Go.RowKit

/-- x is answered before y. -/
def betterQ (x y : SQuestion) : Bool := decide (y.Priority < x.Priority) || (decide (x.Priority = y.Priority) && decide (x.Arrived < y.Arrived))
def nxt (L : List SQuestion) (sk : Nat → Bool) (now : Int) : Nat → Int
  | 0 => -1
  | k + 1 => match L[k]? with
    | none => nxt L sk now k
    | some x => if sk k = true ∨ now < x.Arrived then nxt L sk now k else
      if nxt L sk now k < 0 then (k : Int) else match L[(nxt L sk now k).toNat]? with
        | none => nxt L sk now k
        | some y => if betterQ x y = true then (k : Int) else nxt L sk now k
section
variable {L : List SQuestion} {sk : Nat → Bool} {now : Int} {k : Nat} {x y : SQuestion}
theorem nxt_bd (L : List SQuestion) (sk : Nat → Bool) (now : Int) (k : Nat) : -1 ≤ nxt L sk now k ∧ nxt L sk now k < k := by
  induction k with
  | zero => simp [nxt]
  | succ k ih =>
    unfold nxt
    split
    · omega
    · split
      · omega
      · split
        · omega
        · split
          · omega
          · split <;> omega
theorem nxt_skip (hx : L[k]? = some x) (h : sk k = true) {v : Int} (hv : nxt L sk now k = v) : nxt L sk now (k + 1) = v := by unfold nxt; rw [hx]; simp [h, hv]
theorem nxt_late (hx : L[k]? = some x) (h : now < x.Arrived) {v : Int} (hv : nxt L sk now k = v) : nxt L sk now (k + 1) = v := by unfold nxt; rw [hx]; simp [h, hv]
theorem nxt_first (hx : L[k]? = some x) (h : sk k = false) (h2 : ¬ now < x.Arrived) (h3 : nxt L sk now k < 0) : nxt L sk now (k + 1) = k := by unfold nxt; rw [hx]; simp [h, h2, h3]
theorem nxt_better {j : Nat} (hx : L[k]? = some x) (h : sk k = false) (h2 : ¬ now < x.Arrived) (h3 : nxt L sk now k = j) (hy : L[j]? = some y) (hb : betterQ x y = true) : nxt L sk now (k + 1) = k := by
  unfold nxt; rw [hx]
  simp only [h, h2, h3]
  rw [if_neg (by simp), if_neg (by omega), Int.toNat_natCast, hy]
  simp [hb]
theorem nxt_worse {j : Nat} (hx : L[k]? = some x) (h : sk k = false) (h2 : ¬ now < x.Arrived) (h3 : nxt L sk now k = j) (hy : L[j]? = some y) (hb : betterQ x y = false) : nxt L sk now (k + 1) = j := by
  unfold nxt; rw [hx]
  simp only [h, h2, h3]
  rw [if_neg (by simp), if_neg (by omega), Int.toNat_natCast, hy]
  simp [hb]
theorem better_pr (h : y.Priority < x.Priority) : betterQ x y = true := by simp [betterQ, h]
theorem better_ar (h : x.Priority = y.Priority) (h2 : x.Arrived < y.Arrived) : betterQ x y = true := by simp [betterQ, h, h2]
theorem worse_ar (h : x.Priority = y.Priority) (h2 : ¬ x.Arrived < y.Arrived) : betterQ x y = false := by simp [betterQ, h, h2]
theorem worse_pr (h : ¬ y.Priority < x.Priority) (h2 : ¬ x.Priority = y.Priority) : betterQ x y = false := by simp [betterQ, h, h2]
end

/-- A list of numbers holds a number. -/
def nqI (x y : Int) : Bool := !(y == x)
def hasI (M : List Int) (x : Int) : Bool := !(M.all (nqI x))
theorem hasI_hit {M : List Int} {k : Nat} {x y : Int} (h : M[k]? = some y) (e : (y == x) = true) : hasI M x = true := by
  unfold hasI; rw [all_false (p := nqI x) h (by unfold nqI; rw [e]; rfl)]; rfl
theorem hasI_none {M : List Int} {x : Int} (h : M.all (nqI x) = true) : hasI M x = false := by unfold hasI; rw [h]; rfl

set_option maxHeartbeats 1000000 in
theorem l00Has_any (A : Option Addr) (n c : Nat) (M : List Int) (x : Int) (w : World) (hr : Rd w A 1 iv M) (hn : M.length = n) (hb : n ≤ 4194304) :
    Calls Try.prog 87 #[.slice A n c, .int .i64 x] w fun e w' => e = .returned (.bool (hasI M x)) ∧ w = w' := by
  have Hn := Lib.hid hn
  have HR := Lib.hid hr
  clear hr hn
  go_enter Try.func87, Try.ntmps87
  go_wp2
  go_loop [5] (fun i => ∃ k : Nat, k ≤ n ∧ i = .int .i64 k ∧ (M.take k).all (nqI x) = true) (fun i => n - (intOf i).toNat)
  case atStart => exact ⟨0, Nat.zero_le _, rfl, by simp⟩
  case round =>
    obtain ⟨k, hk, rfl, ha⟩ := hrel
    have HA := Lib.hid ha
    clear ha
    by_cases hlt : k < n
    · obtain ⟨b, o, y, rfl, hy, hc⟩ := HR.out.int (k := k) (by rw [Hn.out]; exact hlt)
      have HY := Lib.hid hy
      clear hy
      cases hd : (y == x)
      · have H := Lib.hid (all_snoc (p := nqI x) HY.out HA.out (by unfold nqI; rw [hd]; rfl))
        go_wp2
        go_round
        case rel => exact ⟨k + 1, by omega, by go_num, H.out⟩
        case measure => simp [intOf]; omega
      · have H := Lib.hid (hasI_hit HY.out hd)
        go_wp2
        go_ret
        exact ⟨ret_bool H.out.symm, rfl⟩
    · have H := Lib.hid (hasI_none (x := x) (all_take_all (by rw [Hn.out]; omega) HA.out))
      go_wp2
      go_ret
      exact ⟨ret_bool H.out.symm, rfl⟩

/-- Truth values: one cell each. -/
def bv (b : Bool) : List Value := [.bool b]
theorem Rd.bool {w : World} {A : Option Addr} {L : List Bool} (h : Rd w A 1 bv L) {k : Nat} (hk : k < L.length) :
    ∃ b o x, A = some ⟨b, o, none⟩ ∧ L[k]? = some x ∧ w.cell? ⟨b, o + k, none⟩ = some (.bool x) := by
  obtain ⟨b, o, x, e, hx, hc⟩ := h.at_ hk
  exact ⟨b, o, x, e, hx, by simpa using hc 0 (.bool x) rfl⟩
def gB (Gs : List Bool) (k : Nat) : Bool := Gs.getD k false
theorem gB_at {Gs : List Bool} {k : Nat} {g : Bool} (h : Gs[k]? = some g) : gB Gs k = g := by unfold gB; rw [List.getD_eq_getElem?_getD, h]; rfl
def gI (M : List Int) (k : Nat) : Bool := hasI M k

set_option maxRecDepth 20000 in
set_option maxHeartbeats 4000000 in
theorem nextQuestion_any (A : Option Addr) (n c : Nat) (L : List SQuestion) (A2 : Option Addr) (c2 : Nat) (Gs : List Bool) (now : Int) (w : World) (hr : Rd w A 4 cQuestion L) (hn : L.length = n) (hb : n ≤ 4194304) (hr2 : Rd w A2 1 bv Gs) (hn2 : Gs.length = n) :
    Calls Try.prog 77 #[.slice A n c, .slice A2 n c2, .int .i64 now] w fun e w' => e = .returned (.int .i64 (nxt L (gB Gs) now n)) ∧ G w w' := by
  have Hn := Lib.hid hn
  have HR := Lib.hid hr
  have HR2 := Lib.hid hr2
  have Hn2 := Lib.hid hn2
  clear hr hn hr2 hn2
  go_enter Try.func77, Try.ntmps77
  go_wp2
  go_loopw [12, 7] (fun i t wr => ∃ (k : Nat) (v : Int), k ≤ n ∧ i = .int .i64 k ∧ t = .int .i64 v ∧ nxt L (gB Gs) now k = v ∧ G w wr) (fun i _ _ => n - (intOf i).toNat)
  case atStart => exact ⟨0, -1, Nat.zero_le _, rfl, rfl, rfl, G.refl _⟩
  case round =>
    obtain ⟨k, v, hk, rfl, rfl, hv, hg⟩ := hrel
    have G0 := Lib.hid hg
    have HV := Lib.hid hv
    have hvb := nxt_bd L (gB Gs) now k
    rw [hv] at hvb
    clear hg hv
    by_cases hlt : k < n
    · obtain ⟨b, o, x, rfl, hx, hc0, hc1, hc2, hc3⟩ := (HR.out.G G0.out).Question (k := k) (by rw [Hn.out]; exact hlt)
      obtain ⟨b2, o2, g, rfl, hg2, hcg⟩ := (HR2.out.G G0.out).bool (k := k) (by rw [Hn2.out]; exact hlt)
      have HG := Lib.hid (gB_at hg2)
      replace hcg : (wr.alloc (.cells #[.string x.Id, .int .i64 x.Arrived, .int .i64 x.Length, .int .i64 x.Priority] 86)).cell? ⟨b2, o2 + k, none⟩ = some (.bool g) := ((G.refl wr).alloc _).cell hcg
      clear hg2
      have HX := Lib.hid hx
      clear hx
      have hlt2 : (k : Int) < (n : Int) := by omega
      have hk0 : 0 ≤ (k : Int) := by omega
      cases g with
      | true =>
        have HN := Lib.hid (nxt_skip HX.out HG.out HV.out)
        go_wp2
        go_roundw
        case rel => exact ⟨k + 1, _, by omega, by go_num, rfl, HN.out, G0.out.alloc _⟩
        case measure => simp [intOf]; omega
      | false =>
        by_cases hla : now < x.Arrived
        · skip
          have HN := Lib.hid (nxt_late HX.out hla HV.out)
          go_wp2
          go_roundw
          case rel => exact ⟨k + 1, _, by omega, by go_num, rfl, HN.out, G0.out.alloc _⟩
          case measure => simp [intOf]; omega
        have HLA := Lib.hid hla
        by_cases hv0 : v < 0
        · have HN := Lib.hid (nxt_first HX.out HG.out HLA.out (by rw [HV.out]; exact hv0))
          have hq0 : decide (v < 0) = true := by simpa using hv0
          have ga0 := cellR (w := wr.alloc (.cells #[.string x.Id, .int .i64 x.Arrived, .int .i64 x.Length, .int .i64 x.Priority] 86)) (a := ⟨wr.heap.size, 0, none⟩) (World.cell?_alloc_at _ _ _ _ rfl)
          have ga1 := cellR (w := wr.alloc (.cells #[.string x.Id, .int .i64 x.Arrived, .int .i64 x.Length, .int .i64 x.Priority] 86)) (a := ⟨wr.heap.size, 1, none⟩) (World.cell?_alloc_at _ _ _ _ rfl)
          have ga2 := cellR (w := wr.alloc (.cells #[.string x.Id, .int .i64 x.Arrived, .int .i64 x.Length, .int .i64 x.Priority] 86)) (a := ⟨wr.heap.size, 2, none⟩) (World.cell?_alloc_at _ _ _ _ rfl)
          have ga3 := cellR (w := wr.alloc (.cells #[.string x.Id, .int .i64 x.Arrived, .int .i64 x.Length, .int .i64 x.Priority] 86)) (a := ⟨wr.heap.size, 3, none⟩) (World.cell?_alloc_at _ _ _ _ rfl)
          go_wp2
          refine region_quiet_G (by kernel_rfl) (by kernel_rfl) ?_; (repeat (go_big_quiet_step ((fail)))); refine wpQuiet_nil ?_
          intro w2 hg2
          have G1 := Lib.hid ((G0.out.alloc _).trans hg2)
          clear ga0 ga1 ga2 ga3 hg2
          go_wp2
          go_roundw
          case rel => exact ⟨k + 1, _, by omega, by go_num, rfl, HN.out, G1.out⟩
          case measure => simp [intOf]; omega
        · obtain ⟨j, rfl⟩ : ∃ j : Nat, v = j := ⟨v.toNat, by omega⟩
          have hjk : j < k := by omega
          have hj2 : (j : Int) < (n : Int) := by omega
          have hj0 : 0 ≤ (j : Int) := by omega
          have hq0 : decide ((j : Int) < 0) = false := by simp
          obtain ⟨b', o', y, hA', hy, hd0, hd1, hd2, hd3⟩ := (HR.out.G G0.out).Question (k := j) (by rw [Hn.out]; omega)
          obtain ⟨rfl, rfl⟩ : b = b' ∧ o = o' := by simpa using hA'
          have HY := Lib.hid hy
          clear hy hA' hv0 hvb
          by_cases p1 : y.Priority < x.Priority
          · have HN := Lib.hid (nxt_better HX.out HG.out HLA.out HV.out HY.out (better_pr p1))
            have q1 : decide (y.Priority < x.Priority) = true := by simpa using p1
            have ga0 := cellR (w := wr.alloc (.cells #[.string x.Id, .int .i64 x.Arrived, .int .i64 x.Length, .int .i64 x.Priority] 86)) (a := ⟨wr.heap.size, 0, none⟩) (World.cell?_alloc_at _ _ _ _ rfl)
            have ga1 := cellR (w := wr.alloc (.cells #[.string x.Id, .int .i64 x.Arrived, .int .i64 x.Length, .int .i64 x.Priority] 86)) (a := ⟨wr.heap.size, 1, none⟩) (World.cell?_alloc_at _ _ _ _ rfl)
            have ga2 := cellR (w := wr.alloc (.cells #[.string x.Id, .int .i64 x.Arrived, .int .i64 x.Length, .int .i64 x.Priority] 86)) (a := ⟨wr.heap.size, 2, none⟩) (World.cell?_alloc_at _ _ _ _ rfl)
            have ga3 := cellR (w := wr.alloc (.cells #[.string x.Id, .int .i64 x.Arrived, .int .i64 x.Length, .int .i64 x.Priority] 86)) (a := ⟨wr.heap.size, 3, none⟩) (World.cell?_alloc_at _ _ _ _ rfl)
            have gd0 := cellR (w := wr.alloc (.cells #[.string x.Id, .int .i64 x.Arrived, .int .i64 x.Length, .int .i64 x.Priority] 86)) (((G.refl wr).alloc _).cell hd0)
            have gd1 := cellR (w := wr.alloc (.cells #[.string x.Id, .int .i64 x.Arrived, .int .i64 x.Length, .int .i64 x.Priority] 86)) (((G.refl wr).alloc _).cell hd1)
            have gd2 := cellR (w := wr.alloc (.cells #[.string x.Id, .int .i64 x.Arrived, .int .i64 x.Length, .int .i64 x.Priority] 86)) (((G.refl wr).alloc _).cell hd2)
            have gd3 := cellR (w := wr.alloc (.cells #[.string x.Id, .int .i64 x.Arrived, .int .i64 x.Length, .int .i64 x.Priority] 86)) (((G.refl wr).alloc _).cell hd3)
            go_wp2
            refine region_quiet_G (by kernel_rfl) (by kernel_rfl) ?_; (repeat (go_big_quiet_step ((fail)))); refine wpQuiet_nil ?_
            intro w2 hg2
            have G1 := Lib.hid ((G0.out.alloc _).trans hg2)
            clear ga0 ga1 ga2 ga3 gd0 gd1 gd2 gd3 hg2
            go_wp2
            go_roundw
            case rel => exact ⟨k + 1, _, by omega, by go_num, rfl, HN.out, G1.out⟩
            case measure => simp [intOf]; omega
          · have q1 : decide (y.Priority < x.Priority) = false := by simpa using p1
            by_cases p2 : x.Priority = y.Priority
            · have q2 : (x.Priority == y.Priority) = true := by simpa using p2
              by_cases p3 : x.Arrived < y.Arrived
              · have HN := Lib.hid (nxt_better HX.out HG.out HLA.out HV.out HY.out (better_ar p2 p3))
                have q3 : decide (x.Arrived < y.Arrived) = true := by simpa using p3
                clear p2
                have ga0 := cellR (w := wr.alloc (.cells #[.string x.Id, .int .i64 x.Arrived, .int .i64 x.Length, .int .i64 x.Priority] 86)) (a := ⟨wr.heap.size, 0, none⟩) (World.cell?_alloc_at _ _ _ _ rfl)
                have ga1 := cellR (w := wr.alloc (.cells #[.string x.Id, .int .i64 x.Arrived, .int .i64 x.Length, .int .i64 x.Priority] 86)) (a := ⟨wr.heap.size, 1, none⟩) (World.cell?_alloc_at _ _ _ _ rfl)
                have ga2 := cellR (w := wr.alloc (.cells #[.string x.Id, .int .i64 x.Arrived, .int .i64 x.Length, .int .i64 x.Priority] 86)) (a := ⟨wr.heap.size, 2, none⟩) (World.cell?_alloc_at _ _ _ _ rfl)
                have ga3 := cellR (w := wr.alloc (.cells #[.string x.Id, .int .i64 x.Arrived, .int .i64 x.Length, .int .i64 x.Priority] 86)) (a := ⟨wr.heap.size, 3, none⟩) (World.cell?_alloc_at _ _ _ _ rfl)
                have gd0 := cellR (w := wr.alloc (.cells #[.string x.Id, .int .i64 x.Arrived, .int .i64 x.Length, .int .i64 x.Priority] 86)) (((G.refl wr).alloc _).cell hd0)
                have gd1 := cellR (w := wr.alloc (.cells #[.string x.Id, .int .i64 x.Arrived, .int .i64 x.Length, .int .i64 x.Priority] 86)) (((G.refl wr).alloc _).cell hd1)
                have gd2 := cellR (w := wr.alloc (.cells #[.string x.Id, .int .i64 x.Arrived, .int .i64 x.Length, .int .i64 x.Priority] 86)) (((G.refl wr).alloc _).cell hd2)
                have gd3 := cellR (w := wr.alloc (.cells #[.string x.Id, .int .i64 x.Arrived, .int .i64 x.Length, .int .i64 x.Priority] 86)) (((G.refl wr).alloc _).cell hd3)
                go_wp2
                refine region_quiet_G (by kernel_rfl) (by kernel_rfl) ?_; (repeat (go_big_quiet_step ((fail)))); refine wpQuiet_nil ?_
                intro w2 hg2
                have G1 := Lib.hid ((G0.out.alloc _).trans hg2)
                clear ga0 ga1 ga2 ga3 gd0 gd1 gd2 gd3 hg2
                go_wp2
                go_roundw
                case rel => exact ⟨k + 1, _, by omega, by go_num, rfl, HN.out, G1.out⟩
                case measure => simp [intOf]; omega
              · have HN := Lib.hid (nxt_worse HX.out HG.out HLA.out HV.out HY.out (worse_ar p2 p3))
                have q3 : decide (x.Arrived < y.Arrived) = false := by simpa using p3
                clear p2
                have ga0 := cellR (w := wr.alloc (.cells #[.string x.Id, .int .i64 x.Arrived, .int .i64 x.Length, .int .i64 x.Priority] 86)) (a := ⟨wr.heap.size, 0, none⟩) (World.cell?_alloc_at _ _ _ _ rfl)
                have ga1 := cellR (w := wr.alloc (.cells #[.string x.Id, .int .i64 x.Arrived, .int .i64 x.Length, .int .i64 x.Priority] 86)) (a := ⟨wr.heap.size, 1, none⟩) (World.cell?_alloc_at _ _ _ _ rfl)
                have ga2 := cellR (w := wr.alloc (.cells #[.string x.Id, .int .i64 x.Arrived, .int .i64 x.Length, .int .i64 x.Priority] 86)) (a := ⟨wr.heap.size, 2, none⟩) (World.cell?_alloc_at _ _ _ _ rfl)
                have ga3 := cellR (w := wr.alloc (.cells #[.string x.Id, .int .i64 x.Arrived, .int .i64 x.Length, .int .i64 x.Priority] 86)) (a := ⟨wr.heap.size, 3, none⟩) (World.cell?_alloc_at _ _ _ _ rfl)
                have gd0 := cellR (w := wr.alloc (.cells #[.string x.Id, .int .i64 x.Arrived, .int .i64 x.Length, .int .i64 x.Priority] 86)) (((G.refl wr).alloc _).cell hd0)
                have gd1 := cellR (w := wr.alloc (.cells #[.string x.Id, .int .i64 x.Arrived, .int .i64 x.Length, .int .i64 x.Priority] 86)) (((G.refl wr).alloc _).cell hd1)
                have gd2 := cellR (w := wr.alloc (.cells #[.string x.Id, .int .i64 x.Arrived, .int .i64 x.Length, .int .i64 x.Priority] 86)) (((G.refl wr).alloc _).cell hd2)
                have gd3 := cellR (w := wr.alloc (.cells #[.string x.Id, .int .i64 x.Arrived, .int .i64 x.Length, .int .i64 x.Priority] 86)) (((G.refl wr).alloc _).cell hd3)
                go_wp2
                refine region_quiet_G (by kernel_rfl) (by kernel_rfl) ?_; (repeat (go_big_quiet_step ((fail)))); refine wpQuiet_nil ?_
                intro w2 hg2
                have G1 := Lib.hid ((G0.out.alloc _).trans hg2)
                clear ga0 ga1 ga2 ga3 gd0 gd1 gd2 gd3 hg2
                go_wp2
                go_roundw
                case rel => exact ⟨k + 1, _, by omega, by go_num, rfl, HN.out, G1.out⟩
                case measure => simp [intOf]; omega
            · have HN := Lib.hid (nxt_worse HX.out HG.out HLA.out HV.out HY.out (worse_pr p1 p2))
              have q2 : (x.Priority == y.Priority) = false := by simpa using p2
              clear p2
              have ga0 := cellR (w := wr.alloc (.cells #[.string x.Id, .int .i64 x.Arrived, .int .i64 x.Length, .int .i64 x.Priority] 86)) (a := ⟨wr.heap.size, 0, none⟩) (World.cell?_alloc_at _ _ _ _ rfl)
              have ga1 := cellR (w := wr.alloc (.cells #[.string x.Id, .int .i64 x.Arrived, .int .i64 x.Length, .int .i64 x.Priority] 86)) (a := ⟨wr.heap.size, 1, none⟩) (World.cell?_alloc_at _ _ _ _ rfl)
              have ga2 := cellR (w := wr.alloc (.cells #[.string x.Id, .int .i64 x.Arrived, .int .i64 x.Length, .int .i64 x.Priority] 86)) (a := ⟨wr.heap.size, 2, none⟩) (World.cell?_alloc_at _ _ _ _ rfl)
              have ga3 := cellR (w := wr.alloc (.cells #[.string x.Id, .int .i64 x.Arrived, .int .i64 x.Length, .int .i64 x.Priority] 86)) (a := ⟨wr.heap.size, 3, none⟩) (World.cell?_alloc_at _ _ _ _ rfl)
              have gd0 := cellR (w := wr.alloc (.cells #[.string x.Id, .int .i64 x.Arrived, .int .i64 x.Length, .int .i64 x.Priority] 86)) (((G.refl wr).alloc _).cell hd0)
              have gd1 := cellR (w := wr.alloc (.cells #[.string x.Id, .int .i64 x.Arrived, .int .i64 x.Length, .int .i64 x.Priority] 86)) (((G.refl wr).alloc _).cell hd1)
              have gd2 := cellR (w := wr.alloc (.cells #[.string x.Id, .int .i64 x.Arrived, .int .i64 x.Length, .int .i64 x.Priority] 86)) (((G.refl wr).alloc _).cell hd2)
              have gd3 := cellR (w := wr.alloc (.cells #[.string x.Id, .int .i64 x.Arrived, .int .i64 x.Length, .int .i64 x.Priority] 86)) (((G.refl wr).alloc _).cell hd3)
              go_wp2
              refine region_quiet_G (by kernel_rfl) (by kernel_rfl) ?_; (repeat (go_big_quiet_step ((fail)))); refine wpQuiet_nil ?_
              intro w2 hg2
              have G1 := Lib.hid ((G0.out.alloc _).trans hg2)
              clear ga0 ga1 ga2 ga3 gd0 gd1 gd2 gd3 hg2
              go_wp2
              go_roundw
              case rel => exact ⟨k + 1, _, by omega, by go_num, rfl, HN.out, G1.out⟩
              case measure => simp [intOf]; omega
    · have hkn : k = n := by omega
      have HN := Lib.hid (show nxt L (gB Gs) now n = v by rw [← hkn]; exact HV.out)
      go_wp2
      go_ret
      exact ⟨ret_int HN.out.symm, G0.out⟩

set_option maxRecDepth 20000 in
set_option maxHeartbeats 4000000 in
theorem l18Next_any (A : Option Addr) (n c : Nat) (L : List SQuestion) (A2 : Option Addr) (n2 c2 : Nat) (M : List Int) (now : Int) (w : World) (hr : Rd w A 4 cQuestion L) (hn : L.length = n) (hb : n ≤ 4194304) (hr2 : Rd w A2 1 iv M) (hn2 : M.length = n2) (hb2 : n2 ≤ 4194304) :
    Calls Try.prog 76 #[.slice A n c, .slice A2 n2 c2, .int .i64 now] w fun e w' => e = .returned (.int .i64 (nxt L (gI M) now n)) ∧ G w w' := by
  have Hn := Lib.hid hn
  have HR := Lib.hid hr
  have HR2 := Lib.hid hr2
  have Hn2 := Lib.hid hn2
  clear hr hn hr2 hn2
  go_enter Try.func76, Try.ntmps76
  go_wp2
  go_loopw [8, 7] (fun i t wr => ∃ (k : Nat) (v : Int), k ≤ n ∧ i = .int .i64 k ∧ t = .int .i64 v ∧ nxt L (gI M) now k = v ∧ G w wr) (fun i _ _ => n - (intOf i).toNat)
  case atStart => exact ⟨0, -1, Nat.zero_le _, rfl, rfl, rfl, G.refl _⟩
  case round =>
    obtain ⟨k, v, hk, rfl, rfl, hv, hg⟩ := hrel
    have G0 := Lib.hid hg
    have HV := Lib.hid hv
    have hvb := nxt_bd L (gI M) now k
    rw [hv] at hvb
    clear hg hv
    by_cases hlt : k < n
    · obtain ⟨b, o, x, rfl, hx, hc0, hc1, hc2, hc3⟩ := (HR.out.G G0.out).Question (k := k) (by rw [Hn.out]; exact hlt)
      have KH := Lib.hid (l00Has_any A2 n2 c2 M k wr (HR2.out.G G0.out) Hn2.out hb2)
      obtain ⟨g, HG⟩ : ∃ g, Hid (gI M k = g) := ⟨_, rfl⟩
      rw [show hasI M k = g from HG.out] at KH
      have HX := Lib.hid hx
      clear hx
      have hlt2 : (k : Int) < (n : Int) := by omega
      have hk0 : 0 ≤ (k : Int) := by omega
      by_cases hla : now < x.Arrived
      · skip
        have HN := Lib.hid (nxt_late HX.out hla HV.out)
        go_wp2_with ((go_at_call 87; with_reducible refine KH.out.mono ?_; rintro e w' ⟨rfl, rfl⟩))
        go_roundw
        case rel => exact ⟨k + 1, _, by omega, by go_num, rfl, HN.out, G0.out⟩
        case measure => simp [intOf]; omega
      have HLA := Lib.hid hla
      cases g with
      | true =>
        have HN := Lib.hid (nxt_skip HX.out HG.out HV.out)
        go_wp2_with ((go_at_call 87; with_reducible refine KH.out.mono ?_; rintro e w' ⟨rfl, rfl⟩))
        go_roundw
        case rel => exact ⟨k + 1, _, by omega, by go_num, rfl, HN.out, G0.out⟩
        case measure => simp [intOf]; omega
      | false =>
        by_cases hv0 : v < 0
        · have HN := Lib.hid (nxt_first HX.out HG.out HLA.out (by rw [HV.out]; exact hv0))
          have hq0 : decide (v < 0) = true := by simpa using hv0
          have ga0 := cellR hc0
          have ga1 := cellR hc1
          have ga2 := cellR hc2
          have ga3 := cellR hc3
          go_wp2_with ((go_at_call 87; with_reducible refine KH.out.mono ?_; rintro e w' ⟨rfl, rfl⟩))
          refine region_quiet_G (by kernel_rfl) (by kernel_rfl) ?_; (repeat (go_big_quiet_step ((fail)))); refine wpQuiet_nil ?_
          intro w2 hg2
          have G1 := Lib.hid (G0.out.trans hg2)
          clear ga0 ga1 ga2 ga3 hg2
          go_wp2
          go_roundw
          case rel => exact ⟨k + 1, _, by omega, by go_num, rfl, HN.out, G1.out⟩
          case measure => simp [intOf]; omega
        · obtain ⟨j, rfl⟩ : ∃ j : Nat, v = j := ⟨v.toNat, by omega⟩
          have hjk : j < k := by omega
          have hj2 : (j : Int) < (n : Int) := by omega
          have hj0 : 0 ≤ (j : Int) := by omega
          have hq0 : decide ((j : Int) < 0) = false := by simp
          obtain ⟨b', o', y, hA', hy, hd0, hd1, hd2, hd3⟩ := (HR.out.G G0.out).Question (k := j) (by rw [Hn.out]; omega)
          obtain ⟨rfl, rfl⟩ : b = b' ∧ o = o' := by simpa using hA'
          have HY := Lib.hid hy
          clear hy hA' hv0 hvb
          by_cases p1 : y.Priority < x.Priority
          · have HN := Lib.hid (nxt_better HX.out HG.out HLA.out HV.out HY.out (better_pr p1))
            have q1 : decide (y.Priority < x.Priority) = true := by simpa using p1
            have ga0 := cellR hc0
            have ga1 := cellR hc1
            have ga2 := cellR hc2
            have ga3 := cellR hc3
            have gd0 := cellR hd0
            have gd1 := cellR hd1
            have gd2 := cellR hd2
            have gd3 := cellR hd3
            go_wp2_with ((go_at_call 87; with_reducible refine KH.out.mono ?_; rintro e w' ⟨rfl, rfl⟩))
            refine region_quiet_G (by kernel_rfl) (by kernel_rfl) ?_; (repeat (go_big_quiet_step ((fail)))); refine wpQuiet_nil ?_
            intro w2 hg2
            have G1 := Lib.hid (G0.out.trans hg2)
            clear ga0 ga1 ga2 ga3 gd0 gd1 gd2 gd3 hg2
            go_wp2
            go_roundw
            case rel => exact ⟨k + 1, _, by omega, by go_num, rfl, HN.out, G1.out⟩
            case measure => simp [intOf]; omega
          · have q1 : decide (y.Priority < x.Priority) = false := by simpa using p1
            by_cases p2 : x.Priority = y.Priority
            · have q2 : (x.Priority == y.Priority) = true := by simpa using p2
              by_cases p3 : x.Arrived < y.Arrived
              · have HN := Lib.hid (nxt_better HX.out HG.out HLA.out HV.out HY.out (better_ar p2 p3))
                have q3 : decide (x.Arrived < y.Arrived) = true := by simpa using p3
                clear p2
                have ga0 := cellR hc0
                have ga1 := cellR hc1
                have ga2 := cellR hc2
                have ga3 := cellR hc3
                have gd0 := cellR hd0
                have gd1 := cellR hd1
                have gd2 := cellR hd2
                have gd3 := cellR hd3
                go_wp2_with ((go_at_call 87; with_reducible refine KH.out.mono ?_; rintro e w' ⟨rfl, rfl⟩))
                refine region_quiet_G (by kernel_rfl) (by kernel_rfl) ?_; (repeat (go_big_quiet_step ((fail)))); refine wpQuiet_nil ?_
                intro w2 hg2
                have G1 := Lib.hid (G0.out.trans hg2)
                clear ga0 ga1 ga2 ga3 gd0 gd1 gd2 gd3 hg2
                go_wp2
                go_roundw
                case rel => exact ⟨k + 1, _, by omega, by go_num, rfl, HN.out, G1.out⟩
                case measure => simp [intOf]; omega
              · have HN := Lib.hid (nxt_worse HX.out HG.out HLA.out HV.out HY.out (worse_ar p2 p3))
                have q3 : decide (x.Arrived < y.Arrived) = false := by simpa using p3
                clear p2
                have ga0 := cellR hc0
                have ga1 := cellR hc1
                have ga2 := cellR hc2
                have ga3 := cellR hc3
                have gd0 := cellR hd0
                have gd1 := cellR hd1
                have gd2 := cellR hd2
                have gd3 := cellR hd3
                go_wp2_with ((go_at_call 87; with_reducible refine KH.out.mono ?_; rintro e w' ⟨rfl, rfl⟩))
                refine region_quiet_G (by kernel_rfl) (by kernel_rfl) ?_; (repeat (go_big_quiet_step ((fail)))); refine wpQuiet_nil ?_
                intro w2 hg2
                have G1 := Lib.hid (G0.out.trans hg2)
                clear ga0 ga1 ga2 ga3 gd0 gd1 gd2 gd3 hg2
                go_wp2
                go_roundw
                case rel => exact ⟨k + 1, _, by omega, by go_num, rfl, HN.out, G1.out⟩
                case measure => simp [intOf]; omega
            · have HN := Lib.hid (nxt_worse HX.out HG.out HLA.out HV.out HY.out (worse_pr p1 p2))
              have q2 : (x.Priority == y.Priority) = false := by simpa using p2
              clear p2
              have ga0 := cellR hc0
              have ga1 := cellR hc1
              have ga2 := cellR hc2
              have ga3 := cellR hc3
              have gd0 := cellR hd0
              have gd1 := cellR hd1
              have gd2 := cellR hd2
              have gd3 := cellR hd3
              go_wp2_with ((go_at_call 87; with_reducible refine KH.out.mono ?_; rintro e w' ⟨rfl, rfl⟩))
              refine region_quiet_G (by kernel_rfl) (by kernel_rfl) ?_; (repeat (go_big_quiet_step ((fail)))); refine wpQuiet_nil ?_
              intro w2 hg2
              have G1 := Lib.hid (G0.out.trans hg2)
              clear ga0 ga1 ga2 ga3 gd0 gd1 gd2 gd3 hg2
              go_wp2
              go_roundw
              case rel => exact ⟨k + 1, _, by omega, by go_num, rfl, HN.out, G1.out⟩
              case measure => simp [intOf]; omega
    · have hkn : k = n := by omega
      have HN := Lib.hid (show nxt L (gI M) now n = v by rw [← hkn]; exact HV.out)
      go_wp2
      go_ret
      exact ⟨ret_int HN.out.symm, G0.out⟩
end Go.Proofs.Ytfdghdnnjhilgaa
