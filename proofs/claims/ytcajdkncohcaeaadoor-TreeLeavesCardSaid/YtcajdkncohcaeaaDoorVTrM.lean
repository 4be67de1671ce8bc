import Derived.Test.YtcajdkncohcaeaaDoorVTrE
import Derived.Deep.Slices
import Derived.WideShapes
import Derived.Carry
namespace Go.Proofs.YtcajdkncohcaeaaDoor
set_option linter.unusedVariables false
set_option linter.unusedSimpArgs false
open Go.RowKit Go.Proofs.YtcajdkncohcaeaaDoorW.PrintWords Go.ChangeShapes Go.WideShapes Go.Deep
open GTree (S52 k52)
instance : Inhabited S52 := ⟨GTree.z52⟩
theorem list_seven {α : Type} (l : List α) (h : l.length = 7) : ∃ a b c d e f g, l = [a, b, c, d, e, f, g] := by
  match l, h with
  | [a, b, c, d, e, f, g], _ => exact ⟨a, b, c, d, e, f, g, rfl⟩
def wfS (x : S52) : Prop := (Lit.int .i64 x.f0).wf = true ∧ (Lit.int .i64 x.f1).wf = true ∧ (Lit.int .i64 x.f2).wf = true ∧ (Lit.int .i64 x.f3).wf = true ∧ (Lit.int .i64 x.f6).wf = true ∧ x.f4.size ≤ maxLen ∧ x.f5.size ≤ maxLen
theorem node_trod {H : Type} {enc : TypeId × Value → H} {w : World} {base : Nat} {sp : Nat → Bool} {held : Bool} {fuel : Nat} {cs : List Value} {x : DataW H × List MemPlace} (h : DataW.trod enc Tryd.prog w base sp held fuel 52 cs = some x) :
    ∃ n : S52, cs = cS n ∧ wfS n := by
  obtain ⟨xs, m, rfl, rfl, hl, hx, hf⟩ := DataW.trod_struct Tryd.underlying52 h
  have hc : Tryd.prog.cellsOf 52 = 7 := by kernel_rfl
  have h1 : Tryd.prog.cellsOf 3 = 1 := by kernel_rfl
  have h2 : Tryd.prog.cellsOf 9 = 1 := by kernel_rfl
  rw [hc] at hl
  obtain ⟨v0, v1, v2, v3, v4, v5, v6, rfl⟩ := list_seven cs hl
  obtain ⟨y0, y1, y2, y3, y4, y5, y6, rfl⟩ := list_seven xs hx
  have g0 : DataW.trod enc Tryd.prog w base sp held m 3 ((([v0, v1, v2, v3, v4, v5, v6] : List Value).drop 0).take (Tryd.prog.cellsOf 3)) = some y0 := hf 0 _ rfl
  rw [h1] at g0
  have g1 : DataW.trod enc Tryd.prog w base sp held m 3 ((([v0, v1, v2, v3, v4, v5, v6] : List Value).drop 1).take (Tryd.prog.cellsOf 3)) = some y1 := hf 1 _ rfl
  rw [h1] at g1
  have g2 : DataW.trod enc Tryd.prog w base sp held m 3 ((([v0, v1, v2, v3, v4, v5, v6] : List Value).drop 2).take (Tryd.prog.cellsOf 3)) = some y2 := hf 2 _ rfl
  rw [h1] at g2
  have g3 : DataW.trod enc Tryd.prog w base sp held m 3 ((([v0, v1, v2, v3, v4, v5, v6] : List Value).drop 3).take (Tryd.prog.cellsOf 3)) = some y3 := hf 3 _ rfl
  rw [h1] at g3
  have g4 : DataW.trod enc Tryd.prog w base sp held m 9 ((([v0, v1, v2, v3, v4, v5, v6] : List Value).drop 4).take (Tryd.prog.cellsOf 9)) = some y4 := hf 4 _ rfl
  rw [h2] at g4
  have g5 : DataW.trod enc Tryd.prog w base sp held m 9 ((([v0, v1, v2, v3, v4, v5, v6] : List Value).drop 5).take (Tryd.prog.cellsOf 9)) = some y5 := hf 5 _ rfl
  rw [h2] at g5
  have g6 : DataW.trod enc Tryd.prog w base sp held m 3 ((([v0, v1, v2, v3, v4, v5, v6] : List Value).drop 6).take (Tryd.prog.cellsOf 3)) = some y6 := hf 6 _ rfl
  rw [h1] at g6
  obtain ⟨n0, e0, _, w0⟩ := DataW.trod_int Tryd.underlying3 g0
  obtain ⟨n1, e1, _, w1⟩ := DataW.trod_int Tryd.underlying3 g1
  obtain ⟨n2, e2, _, w2⟩ := DataW.trod_int Tryd.underlying3 g2
  obtain ⟨n3, e3, _, w3⟩ := DataW.trod_int Tryd.underlying3 g3
  obtain ⟨s4, e4, _, w4⟩ := DataW.trod_string Tryd.underlying9 g4
  obtain ⟨s5, e5, _, w5⟩ := DataW.trod_string Tryd.underlying9 g5
  obtain ⟨n6, e6, _, w6⟩ := DataW.trod_int Tryd.underlying3 g6
  simp at e0 e1 e2 e3 e4 e5 e6
  subst e0 e1 e2 e3 e4 e5 e6
  exact ⟨⟨n0, n1, n2, n3, s4, s5, n6⟩, rfl, w0, w1, w2, w3, w6, w4, w5⟩
set_option maxRecDepth 20000 in
theorem tree_open {H : Type} {enc : TypeId × Value → H} {w : World} {b0 : Nat} {r : Reach} {sp : Nat → Bool} {v : Value} {d : DataW H} {ps : List MemPlace}
    (hval : Value.okWide Tryd.prog w r b0 39 v) (hd : DataW.Trod enc Tryd.prog w 0 sp true 39 v d ps) :
    ∃ (A : Option Addr) (cap : Nat) (l : List S52), v = .slice A l.length cap ∧ l.length ≤ cap ∧ Kd.C k52 w A l.length l ∧ ∀ x ∈ l, wfS x := by
  obtain ⟨a, len, cap, rfl⟩ := okWide_slice Tryd.underlying39 hval
  obtain ⟨fuel, hf⟩ := hd
  replace hf : DataW.trod enc Tryd.prog w 0 sp true fuel 39 [.slice a len cap] = some (d, ps) := hf
  have hc7 : Tryd.prog.cellsOf 52 = 7 := by kernel_rfl
  rcases open_slice Tryd.underlying39 hf with ⟨e, _⟩ | ⟨a', len', cap', m, n, D, Pl, e, hb, hl, hm, hmm, _, hel⟩
  · simp at e
    obtain ⟨rfl, rfl, rfl⟩ := e
    exact ⟨none, 0, [], rfl, Nat.le_refl _, ⟨rfl, by simp, fun h => absurd h (Nat.lt_irrefl _)⟩, by simp⟩
  · simp at e
    obtain ⟨rfl, rfl, rfl⟩ := e
    have hlm : len ≤ m := by rw [hmm]; split <;> omega
    rw [hc7] at hel
    obtain ⟨f, hfx⟩ := choose_lt (n := len) (p := fun i (x : S52) => w.cells? 0 (a'.add (i * 7)) 7 = some (cS x) ∧ wfS x) (fun i hi => by
      obtain ⟨cs', h1, h2⟩ := hel i (by omega)
      obtain ⟨x, rfl, hw⟩ := node_trod h2
      exact ⟨x, h1, hw⟩)
    refine ⟨some a', cap, (List.range len).map f, by simp, by simpa using hl, ?_, ?_⟩
    · refine ⟨rfl, by simp; unfold maxLen at hm; omega, fun _ => ⟨a', rfl, fun j p hj => ?_⟩⟩
      have hjl : j < len := by
        have := (List.getElem?_eq_some_iff.1 hj).1
        simpa using this
      have hp : p = f j := by
        rw [List.getElem?_map, List.getElem?_range hjl] at hj
        simpa using hj.symm
      subst hp
      obtain ⟨_, hcl, hcc⟩ := World.cells?_some (hfx j hjl).1
      refine ⟨cS (f j), rfl, GTree.k52_mk w (f j), fun i u hu => ?_⟩
      have hi : i < 7 := (List.getElem?_eq_some_iff.1 hu).1
      show w.cell? (a'.add (j * 7 + i)) = some u
      rw [← Addr.add_add]
      exact (hcc i hi).trans hu
    · intro x hx
      obtain ⟨i, hi, rfl⟩ := List.mem_map.1 hx
      exact (hfx i (by simpa using hi)).2
end Go.Proofs.YtcajdkncohcaeaaDoor
