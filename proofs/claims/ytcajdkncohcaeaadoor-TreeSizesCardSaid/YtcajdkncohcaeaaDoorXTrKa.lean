import Derived.Test.YtcajdkncohcaeaaDoorXTrI
namespace Go.Proofs.YtcajdkncohcaeaaDoor
set_option linter.unusedVariables false
set_option linter.unusedSimpArgs false
open Go.RowKit Go.Proofs.YtcajdkncohcaeaaDoorW.PrintWords
open GTree (S52 k52 rd_T52)
def leafB (x : S52) : Bool := (x.f1 == 0) && ((x.f2 == 0) && (x.f3 == 0))
def litB (x : S52) : Bool := (x.f0 == 1) && (leafB x && (goodL x.f4 && unitB x.f5))
def refB (x : S52) : Bool := (x.f0 == 2) && (leafB x && (isName x.f4 && (x.f5.toList == [])))
def overB (n : Int) (x : S52) : Bool := (((x.f0 == 7) && (x.f3 == 0)) || ((x.f0 == 8) && (decide (-64 ≤ x.f3) && decide (x.f3 ≤ 64)))) && (decide (0 < n) && ((x.f1 == n - 1) && ((x.f2 == 0) && ((x.f4.toList == []) && (x.f5.toList == [])))))
def twoB (n e : Int) (x : S52) : Bool := twoK x.f0 && (decide (1 < n) && ((x.f2 == n - 1) && (decide (0 < e) && ((x.f1 == e - 1) && ((x.f3 == 0) && ((x.f4.toList == []) && (x.f5.toList == [])))))))
def refStep (out : List Int) (x : S52) : Option Int :=
  if litB x = true then some (out.length : Int) else if refB x = true then some (out.length : Int)
  else if overB (out.length : Int) x = true then some (rd out ((out.length : Int) - 1))
  else if twoB (out.length : Int) (rd out ((out.length : Int) - 1)) x = true then some (rd out x.f1) else none
def refBegin : List S52 → List Int → List Int
  | [], out => out
  | x :: l, out => match refStep out x with
    | some b => refBegin l (out ++ [b])
    | none => []
def refSmall (l : List S52) : Bool := decide (l.length < 1000000) && l.all fun x => decide (x.f4.size ≤ 140737488351232) && decide (x.f5.size ≤ 140737488351232)
def refBeginF (l : List S52) : Option (List Int) := if refSmall l = true then some (refBegin l []) else none
theorem seven_eight (k : Int) (h : (k == 7) = true) : (k == 8) = false := by
  have : k = 7 := by simpa using h
  rw [this]; rfl
theorem rd_snoc (out : List Int) (b : Int) (i : Nat) (h : i < out.length) : rd (out ++ [b]) (i : Int) = rd out (i : Int) := by
  unfold rd; rw [Int.toNat_natCast, List.getD_eq_getElem?_getD, List.getD_eq_getElem?_getD, List.getElem?_append_left h]
theorem rd_last (out : List Int) (b : Int) : rd (out ++ [b]) (out.length : Int) = b := by
  unfold rd; rw [Int.toNat_natCast, List.getD_eq_getElem?_getD, List.getElem?_append_right (Nat.le_refl _)]; simp
/-- each entry lies in 0 .. its index -/
def fromOk (out : List Int) : Prop := ∀ i : Nat, i < out.length → 0 ≤ rd out (i : Int) ∧ rd out (i : Int) ≤ (i : Int)
theorem fromOk_snoc {out : List Int} {b : Int} (h : fromOk out) (h0 : 0 ≤ b) (h1 : b ≤ (out.length : Int)) : fromOk (out ++ [b]) := by
  intro i hi
  rw [List.length_append, List.length_singleton] at hi
  by_cases e : i = out.length
  · subst e; rw [rd_last]; exact ⟨h0, h1⟩
  · rw [rd_snoc out b i (by omega)]; exact h i (by omega)
theorem refBegin_cons (x : S52) (l : List S52) (out : List Int) : refBegin (x :: l) out = (match refStep out x with | some b => refBegin l (out ++ [b]) | none => []) := rfl
theorem drop_rd (l : List S52) (i : Nat) (h : i < l.length) : l.drop i = rd_T52 l (i : Int) :: l.drop (i + 1) := by
  rw [List.drop_eq_getElem_cons h]
  congr 1
  unfold rd_T52; rw [Int.toNat_natCast, List.getD_eq_getElem?_getD, List.getElem?_eq_getElem h]; rfl
theorem rd_mem (l : List S52) (i : Nat) (h : i < l.length) : rd_T52 l (i : Int) ∈ l := by
  unfold rd_T52; rw [Int.toNat_natCast, List.getD_eq_getElem?_getD, List.getElem?_eq_getElem h]; exact List.getElem_mem h
end Go.Proofs.YtcajdkncohcaeaaDoor
