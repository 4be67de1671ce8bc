import Derived.Test.YtlfcdmibknmjeaaDoorNmE
import Derived.Test.YtlfcdmibknmjeaaDoorRows
import Derived.Test.YtlfcdmibknmjeaaDoorTie
import Derived.Test.YtlfcdmibknmjeaaDoorCards
import Derived.WalkKit
import Derived.ProofKit
import Derived.OpenShut
import Derived.ShutString
import Derived.ChangeOld
import Derived.Below
import Derived.SizedLaws
import Derived.SevenTiedAt
import Derived.LaidMore
import Derived.Stop.Joined
import Derived.Lib.LaidTab
import Derived.Lib.SmallJoins
namespace Go.Proofs.YtlfcdmibknmjeaaDoor
set_option linter.unusedVariables false
set_option linter.unusedSimpArgs false
open Go.ChangeShapes Go.WideShapes Go.ChangeAt Go.RowKit
open E Ev
/-! ### what all rows share: the laid variables -/
theorem own : ownKnob Tryd.prog.godebug = none := by kernel_rfl
def lexLaid : List (String × DataW Unit) := [("steelyard/literal.digit", Rows.laid_steelyard_literal_digit), ("steelyard/lex.kinds", Rows.laid_steelyard_lex_kinds), ("steelyard/lex.words", Rows.laid_steelyard_lex_words)]
theorem door_met (os : Os) (args : Array Value) : laidMetH Tryd.prog lexLaid ((World.doorLaid Tryd.prog 400 os).forCall (fun _ _ => 0) ⟨#[], args, []⟩).memory :=
  laidMetH_of_parts3 (fuel := 8) (laidMet_of_run' 8 (by kernel_rfl) (by kernel_rfl)) (by kernel_rfl) (by kernel_rfl)
theorem door_shaped (os : Os) : ((World.doorLaid Tryd.prog 400 os).forCall (fun _ _ => 0) ⟨#[], #[], []⟩).Shaped Tryd.prog := World.shaped_of_RefB (by kernel_rfl) (by kernel_rfl)
theorem laidOut : laidOutB Tryd.prog = true := by kernel_rfl
theorem digit_laid : (Rows.laid_steelyard_literal_digit : DataW Unit) = .agg ((gv3.map (litOf .bool)).map .lit) := by kernel_rfl
theorem kinds_laid : (Rows.laid_steelyard_lex_kinds : DataW Unit) = .agg ((gv1.map (litOf (.int .i64))).map .lit) := by kernel_rfl
theorem words_laid : (Rows.laid_steelyard_lex_words : DataW Unit) = .agg ((gv0.map (litOf .str)).map .lit) := by kernel_rfl
theorem gKinds : Tryd.prog.globalNamed "steelyard/lex.kinds" = some 1 := by kernel_rfl
theorem gDigit : Tryd.prog.globalNamed "steelyard/literal.digit" = some 3 := by kernel_rfl
theorem gWords : Tryd.prog.globalNamed "steelyard/lex.words" = some 0 := by kernel_rfl
theorem tKinds : (Tryd.prog.globals[1]?).map (·.type) = some 118 := by kernel_rfl
theorem tDigit : (Tryd.prog.globals[3]?).map (·.type) = some 126 := by kernel_rfl
theorem tWords : (Tryd.prog.globals[0]?).map (·.type) = some 98 := by kernel_rfl
theorem glob_of_laid {W : World} (h : laidMetH Tryd.prog lexLaid W) : GOk G0 W (Whole W) := by
  rw [MakeChecks.laidMetH_plain _ _ _ (by kernel_rfl)] at h
  obtain ⟨ps, ⟨g0, t0, cs0, f0, p0, q0, hg0, ht0, hv0, hd0, ⟨g1, t1, cs1, f1, p1, q1, hg1, ht1, hv1, hd1, ⟨g2, t2, cs2, f2, p2, q2, hg2, ht2, hv2, hd2, _, _⟩, _⟩, _⟩, _, _⟩ := h
  obtain rfl := Option.some.inj (gDigit.symm.trans hg0)
  obtain rfl := Option.some.inj (gKinds.symm.trans hg1)
  obtain rfl := Option.some.inj (gWords.symm.trans hg2)
  obtain rfl := Option.some.inj (tDigit.symm.trans ht0)
  obtain rfl := Option.some.inj (tKinds.symm.trans ht1)
  obtain rfl := Option.some.inj (tWords.symm.trans ht2)
  rw [digit_laid] at hd0
  rw [kinds_laid] at hd1
  rw [words_laid] at hd2
  have c0 := Ev.cells_of_lits Tryd.underlying126 (by kernel_rfl) (by kernel_rfl) (Ev.lit_bool Tryd.underlying4) hd0
  have c1 := Ev.cells_of_lits Tryd.underlying118 (by kernel_rfl) (by kernel_rfl) (Ev.lit_int Tryd.underlying3) hd1
  have c2 := Ev.cells_of_lits Tryd.underlying98 (by kernel_rfl) (by kernel_rfl) (Ev.lit_string Tryd.underlying9) hd2
  have k0 : ∃ cs, Ev.rel W (Whole W) (.arr 256 .bool) gv3 cs ∧ At W (Whole W) ⟨3, 0, none⟩ cs := gok_lits (t := .bool) rfl (by kernel_rfl) hg0 hv0 c0
  have k1 : ∃ cs, Ev.rel W (Whole W) (.arr 128 (.int .i64)) gv1 cs ∧ At W (Whole W) ⟨1, 0, none⟩ cs := gok_lits (t := .int .i64) rfl (by kernel_rfl) hg1 hv1 c1
  have k2 : ∃ cs, Ev.rel W (Whole W) (.arr 6 .str) gv0 cs ∧ At W (Whole W) ⟨0, 0, none⟩ cs := gok_lits (t := .str) rfl (by kernel_rfl) hg2 hv2 c2
  intro v hv
  simp only [G0, List.mem_cons, List.not_mem_nil, or_false] at hv
  rcases hv with rfl | rfl | rfl
  · exact k0
  · exact k1
  · exact k2
end Go.Proofs.YtlfcdmibknmjeaaDoor
