import Derived.Test.YtcajdkncohcaeaaDoorDmG
import Derived.Test.YtcajdkncohcaeaaDoorLxV
namespace Go.Proofs.YtcajdkncohcaeaaDoor
set_option linter.unusedVariables false
set_option linter.unusedSimpArgs false
open Go.ChangeShapes Go.WideShapes Go.ChangeAt Go.RowKit

/-! ### dimensions' rows: what is laid, an array of seven opened and shut -/
def pow10L : List Lit := Lib.pow10Tab.map fun z => .int .u64 z
def namesL : List Lit := [nameB 0, nameB 1, nameB 2, nameB 3, nameB 4, nameB 5, nameB 6].map fun s => .string s.data.toList
theorem pow10_laid : (Rows.laid_internal_strconv_uint64pow10 : DataW Unit) = .agg (pow10L.map .lit) := by kernel_rfl
theorem names_laid : (Rows.laid_steelyard_dim_names : DataW Unit) = .agg (namesL.map .lit) := by kernel_rfl
theorem gNames : Tryd.prog.globalNamed "steelyard/dim.names" = some 1 := by kernel_rfl
theorem tNames : (Tryd.prog.globals[1]?).map (·.type) = some 92 := by kernel_rfl
theorem tPow10 : (Tryd.prog.globals[5]?).map (·.type) = some 146 := by kernel_rfl
def dimLaid : List (String × DataW Unit) := [("math/bits.deBruijn32tab", Rows.laid_math_bits_deBruijn32tab), ("math/bits.deBruijn64tab", Rows.laid_math_bits_deBruijn64tab), ("internal/strconv.uint64pow10", Rows.laid_internal_strconv_uint64pow10), ("steelyard/dim.names", Rows.laid_steelyard_dim_names)]
theorem glob_of_laidD {W : World} (h : laidMetH Tryd.prog dimLaid W) : DimGlob W := by
  rw [MakeChecks.laidMetH_plain _ _ _ (by kernel_rfl)] at h
  obtain ⟨ps, ⟨g0, t0, cs0, f0, p0, q0, hg0, ht0, hv0, hd0, ⟨g1, t1, cs1, f1, p1, q1, hg1, ht1, hv1, hd1, ⟨g2, t2, cs2, f2, p2, q2, hg2, ht2, hv2, hd2, ⟨g3, t3, cs3, f3, p3, q3, hg3, ht3, hv3, hd3, _, _⟩, _⟩, _⟩, _⟩, _, _⟩ := h
  obtain rfl := Option.some.inj (gPow10.symm.trans hg2)
  obtain rfl := Option.some.inj (gNames.symm.trans hg3)
  obtain rfl := Option.some.inj (tPow10.symm.trans ht2)
  obtain rfl := Option.some.inj (tNames.symm.trans ht3)
  rw [pow10_laid] at hd2
  rw [names_laid] at hd3
  have c2 := cells_of_lits Tryd.underlying146 (by kernel_rfl) (by kernel_rfl) (lit_int Tryd.underlying125) hd2
  have c3 := cells_of_lits Tryd.underlying92 (by kernel_rfl) (by kernel_rfl) (lit_string Tryd.underlying9) hd3
  refine ⟨fun i hi => ?_, ?_⟩
  · rw [World.var?_cell hg3 hv3 i, ← Array.getElem?_toList, c3]
    rcases below7 hi with h | h | h | h | h | h | h <;> subst h <;> rfl
  · unfold Lib.TabIs
    rw [hv2]
    congr 1
    apply Array.toList_inj.1
    rw [c2]
    simp [pow10L, litV]
theorem door_metD (os : Os) (args : Array Value) : laidMetH Tryd.prog dimLaid ((World.doorLaid Tryd.prog 400 os).forCall (fun _ _ => 0) ⟨#[], args, []⟩).memory :=
  laidMetH_of_parts3 (fuel := 8) (laidMet_of_run' 8 (by kernel_rfl) (by kernel_rfl)) (by kernel_rfl) (by kernel_rfl)

theorem list7 {α : Type} (l : List α) (h : l.length = 7) : ∃ a b c d e f g, l = [a, b, c, d, e, f, g] := by
  match l, h with
  | [a, b, c, d, e, f, g], _ => exact ⟨a, b, c, d, e, f, g, rfl⟩
theorem arr7_open {H : Type} {enc : TypeId × Value → H} {P : Program} {w : World} {r : Reach} {base b0 : Nat} {spare : Nat → Bool} {held : Bool} {t e : TypeId} {k : IntKind} {v : Value} {d : DataW H} {ps : List MemPlace}
    (ht : P.underlying t = some (.array 7 e)) (he : P.underlying e = some (.int k)) (hce : P.cellsOf e = 1) (hct : P.cellsOf t = 7) (hval : Value.okWide P w r b0 t v) (hd : DataW.Trod enc P w base spare held t v d ps) :
    ∃ a : Nat → Int, v = .agg #[.int k (a 0), .int k (a 1), .int k (a 2), .int k (a 3), .int k (a 4), .int k (a 5), .int k (a 6)] ∧
      d = .agg [.lit (.int k (a 0)), .lit (.int k (a 1)), .lit (.int k (a 2)), .lit (.int k (a 3)), .lit (.int k (a 4)), .lit (.int k (a 5)), .lit (.int k (a 6))] ∧ ps = [] ∧ ∀ j, j < 7 → (Lit.int k (a j)).wf = true := by
  obtain ⟨cs, rfl, hsz, _⟩ : ∃ cs, v = .agg cs ∧ cs.size = P.cellsOf t ∧ Row.okWide P w r b0 t cs := by
    simpa [Value.okWide, ht] using hval
  rw [hct] at hsz
  obtain ⟨l⟩ := cs
  obtain ⟨fuel, hf⟩ := hd
  replace hf : DataW.trod enc P w base spare held fuel t l = some (d, ps) := hf
  obtain ⟨c0, c1, c2, c3, c4, c5, c6, rfl⟩ := list7 l hsz
  obtain ⟨xs, m, rfl, hx, _, hl, hel⟩ := DataW.trod_array ht hf
  obtain ⟨y0, y1, y2, y3, y4, y5, y6, rfl⟩ := list7 xs hl
  simp only [hce, Nat.mul_one] at hel
  obtain ⟨x0, e0, z0, w0⟩ := DataW.trod_int he (hel 0 (by decide))
  obtain ⟨x1, e1, z1, w1⟩ := DataW.trod_int he (hel 1 (by decide))
  obtain ⟨x2, e2, z2, w2⟩ := DataW.trod_int he (hel 2 (by decide))
  obtain ⟨x3, e3, z3, w3⟩ := DataW.trod_int he (hel 3 (by decide))
  obtain ⟨x4, e4, z4, w4⟩ := DataW.trod_int he (hel 4 (by decide))
  obtain ⟨x5, e5, z5, w5⟩ := DataW.trod_int he (hel 5 (by decide))
  obtain ⟨x6, e6, z6, w6⟩ := DataW.trod_int he (hel 6 (by decide))
  simp at e0 e1 e2 e3 e4 e5 e6 z0 z1 z2 z3 z4 z5 z6
  subst e0 e1 e2 e3 e4 e5 e6 z0 z1 z2 z3 z4 z5 z6
  simp only [Prod.mk.injEq] at hx
  obtain ⟨rfl, rfl⟩ := hx
  refine ⟨vD x0 x1 x2 x3 x4 x5 x6, rfl, rfl, rfl, fun j hj => ?_⟩
  rcases below7 hj with h | h | h | h | h | h | h <;> subst h <;> assumption
theorem arr7_shut {H : Type} {enc : TypeId × Value → H} {P : Program} {w : World} {base : Nat} {spare : Nat → Bool} {held : Bool} {t e : TypeId} {k : IntKind}
    (ht : P.underlying t = some (.array 7 e)) (he : P.underlying e = some (.int k)) (hce : P.cellsOf e = 1) (hct : P.cellsOf t = 7) (a : Nat → Int) (hw : ∀ j, j < 7 → (Lit.int k (a j)).wf = true) :
    DataW.Trod enc P w base spare held t (.agg #[.int k (a 0), .int k (a 1), .int k (a 2), .int k (a 3), .int k (a 4), .int k (a 5), .int k (a 6)])
      (.agg [.lit (.int k (a 0)), .lit (.int k (a 1)), .lit (.int k (a 2)), .lit (.int k (a 3)), .lit (.int k (a 4)), .lit (.int k (a 5)), .lit (.int k (a 6))]) [] :=
  ⟨2, by simp [DataW.trod, Value.cells, ht, he, hce, hct, hw 0, hw 1, hw 2, hw 3, hw 4, hw 5, hw 6, show List.range 7 = [0, 1, 2, 3, 4, 5, 6] from rfl]⟩
end Go.Proofs.YtcajdkncohcaeaaDoor
