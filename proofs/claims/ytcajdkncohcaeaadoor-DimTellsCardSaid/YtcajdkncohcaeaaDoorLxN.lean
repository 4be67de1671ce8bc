import Derived.Test.YtcajdkncohcaeaaDoorLxI
import Derived.Test.YtcajdkncohcaeaaDoorRows
import Derived.ProofKit
import Derived.LaidMore
import Derived.OpenShut
import Derived.Stop.Joined
import Derived.Lib.LaidTab
namespace Go.Proofs.YtcajdkncohcaeaaDoor
set_option linter.unusedVariables false
set_option linter.unusedSimpArgs false
open Go.ChangeShapes Go.WideShapes Go.ChangeAt Go.RowKit

def litV : Lit → Value
  | .int k n => .int k n
  | .bool b => .bool b
  | .string l => .string ⟨l.toArray⟩
  | _ => undef

theorem cells_of_lits {H : Type} {enc : TypeId × Value → H} {P : Program} {w : World} {base : Nat} {sp : Nat → Bool} {held : Bool} {fuel : Nat} {t e : TypeId} {n : Nat} {cs : List Value} {ls : List Lit} {p : List MemPlace}
    (ht : P.underlying t = some (.array n e)) (hce : P.cellsOf e = 1) (hct : P.cellsOf t = n)
    (hel : ∀ fuel cs x, DataW.trod enc P w base sp held fuel e cs = some x → ∃ l, cs = [litV l] ∧ x = (.lit l, []))
    (h : DataW.trod enc P w base sp held fuel t cs = some (.agg (ls.map .lit), p)) : cs = ls.map litV := by
  cases fuel with
  | zero => simp [DataW.trod] at h
  | succ fuel =>
    simp only [DataW.trod, ht, hce, hct, Nat.mul_one] at h
    split at h
    · rename_i hl
      obtain ⟨xs, hm, hx⟩ := Option.map_eq_some_iff.1 h
      have hxs : xs.map (·.1) = ls.map fun z => (DataW.lit z : DataW H) := by
        have := congrArg Prod.fst hx
        simpa using this
      have hxl : xs.length = n := by simpa using Lib.mapM_length hm
      have hzl : ls.length = n := by
        have := congrArg List.length hxs
        simp at this
        omega
      apply List.ext_getElem?
      intro i
      by_cases hi : i < n
      · obtain ⟨b, hb, hf⟩ := Lib.mapM_at hm i i (by simp [hi])
        obtain ⟨z, hc, rfl⟩ := hel _ _ _ hf
        have h1 : cs[i]? = some (litV z) := by
          have := congrArg (·[0]?) hc
          simpa [List.getElem?_take, List.getElem?_drop] using this
        have h2 : (xs.map (·.1))[i]? = some (DataW.lit z : DataW H) := by simp [hb]
        rw [hxs] at h2
        simp only [List.getElem?_map, Option.map_eq_some_iff, DataW.lit.injEq] at h2
        obtain ⟨z', hz', rfl⟩ := h2
        simp [h1, hz']
      · rw [List.getElem?_eq_none (by omega), List.getElem?_eq_none (by simp; omega)]
    · cases h
theorem lit_int {H : Type} {enc : TypeId × Value → H} {P : Program} {w : World} {base : Nat} {sp : Nat → Bool} {held : Bool} {e : TypeId} {k : IntKind} (he : P.underlying e = some (.int k)) :
    ∀ fuel cs x, DataW.trod enc P w base sp held fuel e cs = some x → ∃ l, cs = [litV l] ∧ x = (.lit l, []) := fun _ _ _ h => by
  obtain ⟨n, h1, h2, _⟩ := DataW.trod_int he h
  exact ⟨.int k n, h1, h2⟩
theorem lit_bool {H : Type} {enc : TypeId × Value → H} {P : Program} {w : World} {base : Nat} {sp : Nat → Bool} {held : Bool} {e : TypeId} (he : P.underlying e = some .bool) :
    ∀ fuel cs x, DataW.trod enc P w base sp held fuel e cs = some x → ∃ l, cs = [litV l] ∧ x = (.lit l, []) := fun _ _ _ h => by
  obtain ⟨n, h1, h2⟩ := DataW.trod_bool he h
  exact ⟨.bool n, h1, h2⟩
theorem lit_string {H : Type} {enc : TypeId × Value → H} {P : Program} {w : World} {base : Nat} {sp : Nat → Bool} {held : Bool} {e : TypeId} (he : P.underlying e = some .string) :
    ∀ fuel cs x, DataW.trod enc P w base sp held fuel e cs = some x → ∃ l, cs = [litV l] ∧ x = (.lit l, []) := fun _ _ _ h => by
  obtain ⟨s, h1, h2, _⟩ := DataW.trod_string he h
  exact ⟨.string s.data.toList, by rw [h1]; rfl, h2⟩

def kindsL : List Lit := (List.range 128).map fun i => .int .i64 (kindOf i)
def digitL : List Lit := (List.range 256).map fun i => .bool (isDigit i)
def wordsL : List Lit := wordsZ.map fun s => .string s.data.toList
theorem kinds_laid : (Rows.laid_steelyard_lex_kinds : DataW Unit) = .agg (kindsL.map .lit) := by kernel_rfl
theorem digit_laid : (Rows.laid_steelyard_literal_digit : DataW Unit) = .agg (digitL.map .lit) := by kernel_rfl
theorem words_laid : (Rows.laid_steelyard_lex_words : DataW Unit) = .agg (wordsL.map .lit) := by kernel_rfl
theorem gKinds : Tryd.prog.globalNamed "steelyard/lex.kinds" = some 2 := by kernel_rfl
theorem gDigit : Tryd.prog.globalNamed "steelyard/literal.digit" = some 3 := by kernel_rfl
theorem gWords : Tryd.prog.globalNamed "steelyard/lex.words" = some 0 := by kernel_rfl
theorem tKinds : (Tryd.prog.globals[2]?).map (·.type) = some 126 := by kernel_rfl
theorem tDigit : (Tryd.prog.globals[3]?).map (·.type) = some 127 := by kernel_rfl
theorem tWords : (Tryd.prog.globals[0]?).map (·.type) = some 85 := by kernel_rfl

def lexLaid : List (String × DataW Unit) := [("steelyard/literal.digit", Rows.laid_steelyard_literal_digit), ("steelyard/lex.kinds", Rows.laid_steelyard_lex_kinds), ("steelyard/lex.words", Rows.laid_steelyard_lex_words)]
/-- what the row's condition gives the walks -/
theorem glob_of_laid {W : World} (h : laidMetH Tryd.prog lexLaid W) : Glob W := by
  rw [MakeChecks.laidMetH_plain _ _ _ (by kernel_rfl)] at h
  obtain ⟨ps, ⟨g0, t0, cs0, f0, p0, q0, hg0, ht0, hv0, hd0, ⟨g1, t1, cs1, f1, p1, q1, hg1, ht1, hv1, hd1, ⟨g2, t2, cs2, f2, p2, q2, hg2, ht2, hv2, hd2, _, _⟩, _⟩, _⟩, _, _⟩ := h
  obtain rfl := Option.some.inj (gDigit.symm.trans hg0)
  obtain rfl := Option.some.inj (gKinds.symm.trans hg1)
  obtain rfl := Option.some.inj (gWords.symm.trans hg2)
  obtain rfl := Option.some.inj (tDigit.symm.trans ht0)
  obtain rfl := Option.some.inj (tKinds.symm.trans ht1)
  obtain rfl := Option.some.inj (tWords.symm.trans ht2)
  rw [digit_laid] at hd0
  rw [kinds_laid] at hd1
  rw [words_laid] at hd2
  have c0 := cells_of_lits Tryd.underlying127 (by kernel_rfl) (by kernel_rfl) (lit_bool Tryd.underlying4) hd0
  have c1 := cells_of_lits Tryd.underlying126 (by kernel_rfl) (by kernel_rfl) (lit_int Tryd.underlying3) hd1
  have c2 := cells_of_lits Tryd.underlying85 (by kernel_rfl) (by kernel_rfl) (lit_string Tryd.underlying9) hd2
  refine ⟨fun i hi => ?_, fun i hi => ?_, fun i hi => ?_⟩
  · rw [World.var?_cell hg1 hv1 i, ← Array.getElem?_toList, c1]
    simp [kindsL, hi, litV]
  · rw [World.var?_cell hg0 hv0 i, ← Array.getElem?_toList, c0]
    simp [digitL, hi, litV]
  · rw [World.var?_cell hg2 hv2 i, ← Array.getElem?_toList, c2]
    simp only [wordsL, List.getElem?_map, List.getD, List.getElem?_eq_getElem hi]
    rfl
end Go.Proofs.YtcajdkncohcaeaaDoor
