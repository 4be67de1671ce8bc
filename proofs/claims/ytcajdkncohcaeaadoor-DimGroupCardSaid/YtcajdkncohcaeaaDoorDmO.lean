/- The card of DimGroup: of any three rows of seven small numbers the law returns true and leaves what was there as it was. The conditions: the package-level variables math/bits.deBruijn32tab, math/bits.deBruijn64tab, internal/strconv.uint64pow10, steelyard/dim.names read as the program's text lays them; the card ties them to that text. -/
import Derived.Test.YtcajdkncohcaeaaDoorDmN
import Derived.Test.YtcajdkncohcaeaaDoorDmI
namespace Go.Proofs.YtcajdkncohcaeaaDoor
set_option linter.unusedVariables false
set_option linter.unusedSimpArgs false
open Go.ChangeShapes Go.WideShapes Go.ChangeAt Go.RowKit

theorem wf_i8 {a : Nat → Int} (h : ∀ j, j < 7 → (Lit.int .i8 (a j)).wf = true) : ∀ j, j < 7 → -128 ≤ a j ∧ a j ≤ 127 := fun j hj => by
  have := h j hj
  simp [Lit.wf, IntKind.min, IntKind.max, IntKind.bits, IntKind.signed] at this
  omega
set_option maxRecDepth 100000 in
theorem dimGroup_lifted (os : Os) (started : os.Started) (H : Type) (enc : TypeId × Value → H) :
    ReturnsInHanded {} Tryd.checked os 12 .any (fun w args => (Rows.dimGroupSpec.pre enc Tryd.prog Tryd.f12 [] false w args ∧ laidMetH Tryd.prog dimLaid w) ∧ sizedMet enc Tryd.prog Tryd.f12 (OpenSpec.ofChange Rows.dimGroupSpec) false w args)
      (Rows.dimGroupSpec.post enc Tryd.prog Tryd.f12 false true false false) := by
  refine returnsInHanded_of_change_and (C := Tryd.checked) (X := (fun w _ => laidMetH Tryd.prog dimLaid w)) (fun _ _ _ hh h => h.of_heap hh) own started (by kernel_rfl) Tryd.func12
    (ChangeSpec.witness_shaped (enc := enc) (C := Tryd.checked) (os := os) (X := (fun w _ => laidMetH Tryd.prog dimLaid w)) false (World.doorLaid Tryd.prog 400 os) #[.agg #[.int .i8 0, .int .i8 0, .int .i8 0, .int .i8 0, .int .i8 0, .int .i8 0, .int .i8 0], .agg #[.int .i8 0, .int .i8 0, .int .i8 0, .int .i8 0, .int .i8 0, .int .i8 0, .int .i8 0], .agg #[.int .i8 0, .int .i8 0, .int .i8 0, .int .i8 0, .int .i8 0, .int .i8 0, .int .i8 0]] 8 rfl (door_shaped os) (by kernel_rfl) (by kernel_rfl) (by kernel_rfl) (door_metD os _)) ?_
  intro W base args ds gs before hval0 hW _ hsz0 hL _
  have hsz : (DataW.weightsEach Tryd.prog (Tryd.f12.params.toList ++ Rows.dimGroupSpec.plain.varTypes Tryd.prog) (ds ++ gs)).all (· ≤ reachBytes) = true := hsz0
  have hval : ∀ (j : Nat) t v, Tryd.f12.params[j]? = some t → args[j]? = some v → Value.okWide Tryd.prog W .any base t v := hval0
  have hW' := hW
  obtain ⟨p, q, hA0, hV, rfl, hfz, hnd⟩ := hW
  have hA : DataW.TrodAll enc Tryd.prog W 0 (fun _ => true) true Tryd.f12.params.toList args.toList ds p := hA0
  rw [Tryd.params12] at hA hval hsz
  obtain ⟨v0, vs0, d0, ds0, p0, q0, hargs, rfl, rfl, h0, r0⟩ := trodAll_cons hA
  obtain ⟨v1, vs1, d1, ds1, p1, q1, rfl, rfl, rfl, h1, r1⟩ := trodAll_cons r0
  obtain ⟨v2, vs2, d2, ds2, p2, q2, rfl, rfl, rfl, h2, r2⟩ := trodAll_cons r1
  obtain ⟨rfl, rfl, rfl⟩ := trodAll_nil r2
  obtain rfl : args = #[v0, v1, v2] := by cases args; simp_all
  obtain ⟨rfl, rfl⟩ := trodVars_none hV
  obtain ⟨a0, rfl, rfl, rfl, w0⟩ := arr7_open Tryd.underlying76 Tryd.underlying60 (by kernel_rfl) (by kernel_rfl) (hval 0 76 v0 rfl rfl) h0
  obtain ⟨a1, rfl, rfl, rfl, w1⟩ := arr7_open Tryd.underlying76 Tryd.underlying60 (by kernel_rfl) (by kernel_rfl) (hval 1 76 v1 rfl rfl) h1
  obtain ⟨a2, rfl, rfl, rfl, w2⟩ := arr7_open Tryd.underlying76 Tryd.underlying60 (by kernel_rfl) (by kernel_rfl) (hval 2 76 v2 rfl rfl) h2
  have hG := glob_of_laidD hL
  clear hA0 hval0 hsz0 hsz
  refine (dimGroup_any a0 a1 a2 W (wf_i8 w0) (wf_i8 w1) (wf_i8 w2) hG).mono fun e W' ⟨he, bel⟩ => ?_
  subst he
  exact ⟨_, rfl, _, _, _, [], _, [], hW', trodAll_mk1 (shut_bool Tryd.underlying4 _), (trodAll_cons_mk (arr7_shut Tryd.underlying76 Tryd.underlying60 (by kernel_rfl) (by kernel_rfl) a0 w0) (trodAll_cons_mk (arr7_shut Tryd.underlying76 Tryd.underlying60 (by kernel_rfl) (by kernel_rfl) a1 w1) (trodAll_cons_mk (arr7_shut Tryd.underlying76 Tryd.underlying60 (by kernel_rfl) (by kernel_rfl) a2 w2) trodAll_mk0))), rfl, bel.frame _, fun h => by cases h⟩
theorem dimGroup_holds : Rows.DimGroupSaid :=
  OpenClaim.holds_of_wide 12 Tryd.f12 rfl rfl rfl rfl rfl rfl rfl ⟨rfl, rfl, rfl, rfl, rfl⟩ rfl rfl rfl rfl rfl (by kernel_rfl) Tryd.func12 (by kernel_rfl)
    (of_decide_eq_true (by kernel_rfl)) (by unfold Func.isWrapper; first | (rw [if_pos (by decide +kernel)]; kernel_rfl) | (rw [if_neg (by decide +kernel)]; exact ⟨rfl, rfl⟩))
    (fun os started H enc _ => dimGroup_lifted os started H enc)
theorem dimGroupCard_holds : Rows.DimGroupCardSaid :=
  Claim7.holds_tied_plain_at .later [] [.data, .data, .data, .data] true (true, "de43765a912e042e28922f03709a10c1a2ad3f1e31fc3e2ebfafb95d32754a5d") false
    dimGroup_holds (fun _ h => by cases h) (by kernel_rfl) (fun _ h => by cases h) dimGroup_row_tie rfl ⟨rfl, rfl⟩ (by kernel_rfl) rfl
    (fun f fn hf hfn => by
      obtain rfl : f = 12 := Option.some.inj ((show Tryd.prog.funcNamed "steelyard/steelyardlaw11.DimGroup" = some 12 by kernel_rfl).symm.trans hf) |>.symm
      obtain rfl : fn = Tryd.f12 := (Option.some.inj (Tryd.func12.symm.trans hfn)).symm
      exact ⟨by kernel_rfl, fun j t ht => by
        rw [Tryd.params12] at ht
        have hm : t ∈ [76, 76, 76] := by simpa using Array.mem_of_getElem? ht
        have hall : ([76, 76, 76].all fun u => !Tryd.prog.wantsStandIn u) = true := by kernel_rfl
        exact (show Tryd.prog.wantsStandIn t = false by simpa using List.all_eq_true.1 hall t hm)⟩)
    (by kernel_rfl)
end Go.Proofs.YtcajdkncohcaeaaDoor
