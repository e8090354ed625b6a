/-
  For every input, laws.FnSound returns true, and the arguments read behind the call as they read before, where the library's tables stand as listed; they are tied to the program's text.
-/
import Derived.Test.YtmcddcdhppomkaaDoorRows
import Derived.Test.YtmcddcdhppomkaaDoorCards
import Derived.Test.YtmcddcdhppomkaaDoorTie
import Derived.Test.YtmcddcdhppomkaaDoorLawSound
import Derived.Test.YtmcddcdhppomkaaDoorOpen
import Derived.Test.YtmcddcdhppomkaaDoorGiven
import Derived.Lib.LaidTab
import Derived.LaidMore
import Derived.LaidSub
import Derived.Lay
import Derived.ChangeMaps5
import Derived.ChangeVars
import Derived.OpenVars
import Derived.OpenShut
import Derived.LaidLaws
import Derived.LaidHandle
import Derived.SevenTiedAt
import Derived.Stop.Joined
import Derived.ProofKit
namespace Go.Proofs.YtmcddcdhppomkaaDoor.pFnSound
open Go.ChangeShapes Go.WideShapes Go.ChangeAt Go.RowKit

theorem gS : Tryd.prog.globalNamed "internal/strconv.uint64pow10" = some 2 := by kernel_rfl
theorem gSType : (Tryd.prog.globals[2]?).map (·.type) = some 104 := by kernel_rfl
theorem cE : Tryd.prog.cellsOf 61 = 1 := by kernel_rfl
theorem cT : Tryd.prog.cellsOf 104 = 20 := by kernel_rfl
def laidS : List (String × DataW Unit) := [("math/bits.deBruijn32tab", Rows.laid_math_bits_deBruijn32tab), ("math/bits.deBruijn64tab", Rows.laid_math_bits_deBruijn64tab), ("internal/strconv.uint64pow10", Rows.laid_internal_strconv_uint64pow10), ("unicode/utf8.acceptRanges", Rows.laid_unicode_utf8_acceptRanges), ("strconv.ErrRange", Rows.laid_strconv_ErrRange), ("strconv.ErrSyntax", Rows.laid_strconv_ErrSyntax), ("loop.example/g00955/impl.sines", Rows.laid_loop_example_g00955_impl_sines), ("unicode/utf8.first", Rows.laid_unicode_utf8_first)]
theorem laidS_tab : laidS.filter (fun x => x.1 == "internal/strconv.uint64pow10") = [("internal/strconv.uint64pow10", Lib.tabData .u64 Lib.pow10Tab)] := by kernel_rfl
/-- What the condition gives the walks. -/
theorem tabP_of_laid {W : World} (h : laidMetH Tryd.prog laidS W) : TabP W := by
  have h1 := h.filter (fun x => x.1 == "internal/strconv.uint64pow10")
  rw [laidS_tab, MakeChecks.laidMetH_plain _ _ _ (by kernel_rfl)] at h1
  exact Lib.tabIs_of_head gS gSType Tryd.underlying104 Tryd.underlying61 cE cT h1

theorem gES : Tryd.prog.globalNamed "strconv.ErrSyntax" = some 4 := by kernel_rfl
theorem gESType : (Tryd.prog.globals[4]?).map (·.type) = some 79 := by kernel_rfl
theorem gER : Tryd.prog.globalNamed "strconv.ErrRange" = some 5 := by kernel_rfl
theorem gERType : (Tryd.prog.globals[5]?).map (·.type) = some 79 := by kernel_rfl
theorem laidS_es : laidS.filter (fun x => x.1 == "strconv.ErrSyntax") = [("strconv.ErrSyntax", Rows.laid_strconv_ErrSyntax)] := by kernel_rfl
theorem laidS_er : laidS.filter (fun x => x.1 == "strconv.ErrRange") = [("strconv.ErrRange", Rows.laid_strconv_ErrRange)] := by kernel_rfl
theorem env_of_laid {W : World} (h : laidMetH Tryd.prog laidS W) (hs : W.ShapedOpen Tryd.prog) : Env W := by
  refine ⟨tabP_of_laid h, cell_of_shapedOpen_int (zero := #[.int .i64 0]) (t := 3) hs (of_decide_eq_true (by kernel_rfl)) (by kernel_rfl) rfl (by kernel_rfl) (by kernel_rfl) Tryd.underlying3, ?_, ?_⟩
  · have h1 := h.filter (fun x => x.1 == "strconv.ErrSyntax")
    rw [laidS_es, MakeChecks.laidMetH_plain _ _ _ (by kernel_rfl)] at h1
    exact err_of_head gES gESType Tryd.underlying79 h1
  · have h1 := h.filter (fun x => x.1 == "strconv.ErrRange")
    rw [laidS_er, MakeChecks.laidMetH_plain _ _ _ (by kernel_rfl)] at h1
    exact err_of_head gER gERType Tryd.underlying79 h1
theorem gN : Tryd.prog.globalNamed "loop.example/g00955/impl.sines" = some 1 := by kernel_rfl
theorem gNType : (Tryd.prog.globals[1]?).map (·.type) = some 74 := by kernel_rfl
theorem cE2 : Tryd.prog.cellsOf 2 = 1 := by kernel_rfl
theorem cT2 : Tryd.prog.cellsOf 74 = 91 := by kernel_rfl
theorem laidS_sin : laidS.filter (fun x => x.1 == "loop.example/g00955/impl.sines") = [("loop.example/g00955/impl.sines", Lib.tabData .i64 sinT)] := by kernel_rfl
theorem tab_of_laid {W : World} (h : laidMetH Tryd.prog laidS W) : Tab W := by
  have h1 := h.filter (fun x => x.1 == "loop.example/g00955/impl.sines")
  rw [laidS_sin, MakeChecks.laidMetH_plain _ _ _ (by kernel_rfl)] at h1
  have hT := Lib.tabIs_of_head gN gNType Tryd.underlying74 Tryd.underlying2 cE2 cT2 h1
  intro k hk
  exact hT.cell gN k (by rw [sinT_len]; exact hk)
set_option maxRecDepth 100000 in
theorem lifted (os : Os) (started : os.Started) (H : Type) (enc : TypeId × Value → H) :
    ReturnsInHanded {} Tryd.checked os 3 .any (fun w args => (Rows.fnSoundSpec.pre enc Tryd.prog Tryd.f3 [] false w args ∧ laidMetH Tryd.prog laidS w) ∧ sizedMet enc Tryd.prog Tryd.f3 (OpenSpec.ofChange Rows.fnSoundSpec) false w args)
      (Rows.fnSoundSpec.post enc Tryd.prog Tryd.f3 false true false false) := by
  refine handed_and_shaped (C := Tryd.checked) (X := fun w _ => laidMetH Tryd.prog laidS w) (fun _ _ _ hh h => h.of_heap hh) own started (by kernel_rfl) Tryd.func3
    (ChangeSpec.witness_shaped (enc := enc) (C := Tryd.checked) (os := os) (X := fun w _ => laidMetH Tryd.prog laidS w) false (World.laidAll Tryd.prog os laidS) #[.slice none 0 0, .slice none 0 0] 8 (World.laidAll_os _ _ _) (World.shaped_of_ZipB (by kernel_rfl) (by kernel_rfl)) (by kernel_rfl) (by kernel_rfl) (by kernel_rfl) (by rw [MakeChecks.laidMetH_plain _ _ _ (by kernel_rfl)]; exact laidMet_laidAll _ (by kernel_rfl) (by kernel_rfl))) ?_
  intro W base args ds gs before hval0 hW hL hsh
  have hval : ∀ (j : Nat) t v, Tryd.f3.params[j]? = some t → args[j]? = some v → Value.okWide Tryd.prog W .any base t v := hval0
  have hW' := hW
  obtain ⟨p, q, hA0, hV0, rfl, hfz, hnd⟩ := hW
  have hA : DataW.TrodAll enc Tryd.prog W 0 (fun _ => true) true Tryd.f3.params.toList args.toList ds p := hA0
  have hV : DataW.TrodVars enc Tryd.prog W (fun _ => true) ["loop.example/g00955/impl.sines"] gs q := hV0
  rw [Tryd.params3] at hA hval
  have kA := hA
  obtain ⟨v0, vs0, d0, ds0, p0, q0, hargs, rfl, rfl, h0, r0⟩ := trodAll_cons hA
  obtain ⟨v1, vs1, d1, ds1, p1, q1, rfl, rfl, rfl, h1, r1⟩ := trodAll_cons r0
  obtain ⟨rfl, rfl, rfl⟩ := trodAll_nil r1
  obtain rfl : args = #[v0, v1] := by cases args; simp_all
  obtain ⟨a0, len0, cap0, rfl⟩ := okWide_slice Tryd.underlying22 (hval 0 22 v0 rfl rfl)
  obtain ⟨z0, w0⟩ := slice_ints (K := .u8) Tryd.underlying22 Tryd.underlying5 (by kernel_rfl) h0
  obtain ⟨a1, len1, cap1, rfl⟩ := okWide_slice Tryd.underlying22 (hval 1 22 v1 rfl rfl)
  obtain ⟨z1, w1⟩ := slice_ints (K := .u8) Tryd.underlying22 Tryd.underlying5 (by kernel_rfl) h1
  obtain ⟨d9, rfl⟩ : ∃ d1, gs = [d1] := by
    obtain ⟨g, t, cs, fuel, d, p', e, _⟩ := trodVars_one hV
    exact ⟨d, e⟩
  clear hA0 hval0 hV0
  refine (lawFnSound a0 len0 cap0 z0 a1 len1 cap1 z1 W (env_of_laid hL hsh) (tab_of_laid hL) w0 w1).mono fun e W' ⟨he, bel⟩ => ?_
  subst he
  exact ⟨_, rfl, _, _, _, [], _, _, hW', trodAll_mk1 (shut_bool Tryd.underlying4 _), trodAll_below laidOut bel (by kernel_rfl) kA, Below.trodVars laidOut bel (by kernel_rfl) hV, bel.frame _, fun h => by cases h⟩

theorem row_holds : Rows.fnSoundRow.holds Tryd.pinned (OpenSpec.ofChange Rows.fnSoundSpec) :=
  OpenClaim.holds_of_wide 3 Tryd.f3 rfl rfl rfl rfl rfl rfl rfl ⟨rfl, rfl, rfl, rfl, rfl⟩ rfl rfl rfl rfl rfl (by kernel_rfl) Tryd.func3 (by kernel_rfl)
    (of_decide_eq_true (by kernel_rfl)) (by unfold Func.isWrapper; first | (rw [if_pos (by decide +kernel)]; kernel_rfl) | (rw [if_neg (by decide +kernel)]; exact ⟨rfl, rfl⟩))
    (fun os started H enc _ => lifted os started H enc)

/-- The statement: the tied card. -/
theorem proved : Rows.FnSoundCardSaid :=
  Claim7.holds_tied_plain_at .later [] [.data, .data, .data, .data, .sentinel, .sentinel, .data, .pinned] true _ true
    row_holds (fun _ h => by cases h) (by kernel_rfl) (fun _ h => by cases h) fnSound_row_tie rfl ⟨rfl, rfl⟩ (by kernel_rfl) rfl
    (fun f fn hf hfn => by
      obtain rfl : f = 3 := Option.some.inj ((show Tryd.prog.funcNamed "loop.example/g00955/laws.FnSound" = some 3 by kernel_rfl).symm.trans hf) |>.symm
      obtain rfl : fn = Tryd.f3 := (Option.some.inj (Tryd.func3.symm.trans hfn)).symm
      exact ⟨by kernel_rfl, fun j t ht => by
        rw [Tryd.params3] at ht
        have hm : t ∈ [22, 22] := by simpa using Array.mem_of_getElem? ht
        have hall : ([22, 22].all fun u => !Tryd.prog.wantsStandIn u) = true := by kernel_rfl
        exact (show Tryd.prog.wantsStandIn t = false by simpa using List.all_eq_true.1 hall t hm)⟩)
    (by kernel_rfl)
#print axioms proved
end Go.Proofs.YtmcddcdhppomkaaDoor.pFnSound
