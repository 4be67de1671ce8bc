import Derived.Test.YtcajdkncohcaeaaDoorVGTree0
import Derived.Test.YtcajdkncohcaeaaDoorVGTree1
import Derived.Test.YtcajdkncohcaeaaDoorVGTree4
import Derived.Test.YtcajdkncohcaeaaDoorVGTree5
namespace Go.Proofs.YtcajdkncohcaeaaDoor.GTree
open Go.RowKit Go.Proofs.YtcajdkncohcaeaaDoorW.PrintWords Go.Proofs.YtcajdkncohcaeaaDoorW.PrintLast Go.Proofs.YtcajdkncohcaeaaDoorW.PrintMore
attribute [local go_sem] max2_int min2_int max_two min_two max_three min_three max_four min_four   -- for this text's walks alone
set_option linter.unusedVariables false
set_option linter.unusedSimpArgs false
attribute [local go_sem high] eqA52
def steelyardkeep_Tree.l0 : Nat → List (S52) → List (S52) → Int → Option (Bool)
  | 0, _, _, _ => none
  | k + 1, x0, x1, x5 => if x5 < (x0.length : Int) then (if 0 ≤ x5 then (if x5 < (x1.length : Int) then (if (!(((rd_T52 x0 x5).f0) == ((rd_T52 x1 x5).f0)) || (!(((rd_T52 x0 x5).f1) == ((rd_T52 x1 x5).f1)) || (!(((rd_T52 x0 x5).f2) == ((rd_T52 x1 x5).f2)) || (!(((rd_T52 x0 x5).f3) == ((rd_T52 x1 x5).f3)) || (!((((rd_T52 x0 x5).f4).toList) == (((rd_T52 x1 x5).f4).toList)) || (!((((rd_T52 x0 x5).f5).toList) == (((rd_T52 x1 x5).f5).toList)) || (!(((rd_T52 x0 x5).f6) == ((rd_T52 x1 x5).f6))))))))) = true then (some false) else (steelyardkeep_Tree.l0 k x0 x1 (wrap64 (x5 + 1)))) else (none)) else (none)) else (some true)
def steelyardkeep_Tree.f (k : Nat) (l0 : List (S52)) (l1 : List (S52)) : Option (Bool) := if (l0.length : Int) = (l1.length : Int) then (steelyardkeep_Tree.l0 k l0 l1 0) else (some false)
theorem steelyardkeep_Tree.mono_l : ∀ k, (∀ y0 y1 y2, LeO (steelyardkeep_Tree.l0 k y0 y1 y2) (steelyardkeep_Tree.l0 (k + 1) y0 y1 y2))
  | 0 => fun _ _ _ r h => by simp [steelyardkeep_Tree.l0] at h
  | k + 1 => by
    have ih0 := steelyardkeep_Tree.mono_l k
    · intro y0 y1 y2
      unfold steelyardkeep_Tree.l0
      repeat' first
      | (with_reducible exact ih0 _ _ _)
      | (with_reducible exact LeO.refl _)
      | (with_reducible exact LeO.none _)
      | (with_reducible refine LeO.ite ?_ ?_)
      | (with_reducible refine LeO.bind ?_ (fun _ => ?_))
      | exact ih0 _ _ _
      | exact LeO.none _
      | refine LeO.ite ?_ ?_
      | refine LeO.bind ?_ (fun _ => ?_)
theorem steelyardkeep_Tree.mono : ∀ a0 a1 k, LeO (steelyardkeep_Tree.f k a0 a1) (steelyardkeep_Tree.f (k + 1) a0 a1) := by
  intro a0 a1 k
  have ih0 := steelyardkeep_Tree.mono_l k
  unfold steelyardkeep_Tree.f
  repeat' first
      | (with_reducible exact ih0 _ _ _)
      | (with_reducible exact LeO.refl _)
      | (with_reducible exact LeO.none _)
      | (with_reducible refine LeO.ite ?_ ?_)
      | (with_reducible refine LeO.bind ?_ (fun _ => ?_))
      | exact ih0 _ _ _
      | exact LeO.none _
      | refine LeO.ite ?_ ?_
      | refine LeO.bind ?_ (fun _ => ?_)
def steelyardref14_Deeps.l0 : Nat → List (S52) → List Int → Int → Option (List Int)
  | 0, _, _, _ => none
  | k + 1, x0, x3, x4 => if x4 < (x0.length : Int) then (if 0 ≤ x4 then ((steelyardref14_Two.f ((rd_T52 x0 x4).f0)).bind fun t243 => (if t243 = true then (if 0 ≤ ((rd_T52 x0 x4).f1) then (if ((rd_T52 x0 x4).f1) < (x3.length : Int) then (if 0 ≤ ((rd_T52 x0 x4).f2) then (if ((rd_T52 x0 x4).f2) < (x3.length : Int) then (if x3.length < 17592186044416 then (steelyardref14_Deeps.l0 k x0 (x3 ++ [wrap64 (1 + (mx (rd x3 ((rd_T52 x0 x4).f1)) (rd x3 ((rd_T52 x0 x4).f2))))]) (wrap64 (x4 + 1))) else (none)) else (none)) else (none)) else (none)) else (none)) else (if ((rd_T52 x0 x4).f0) = 7 then (if 0 ≤ ((rd_T52 x0 x4).f1) then (if ((rd_T52 x0 x4).f1) < (x3.length : Int) then (if x3.length < 17592186044416 then (steelyardref14_Deeps.l0 k x0 (x3 ++ [wrap64 (1 + (rd x3 ((rd_T52 x0 x4).f1)))]) (wrap64 (x4 + 1))) else (none)) else (none)) else (none)) else (if ((rd_T52 x0 x4).f0) = 8 then (if 0 ≤ ((rd_T52 x0 x4).f1) then (if ((rd_T52 x0 x4).f1) < (x3.length : Int) then (if x3.length < 17592186044416 then (steelyardref14_Deeps.l0 k x0 (x3 ++ [wrap64 (1 + (rd x3 ((rd_T52 x0 x4).f1)))]) (wrap64 (x4 + 1))) else (none)) else (none)) else (none)) else (if x3.length < 17592186044416 then (steelyardref14_Deeps.l0 k x0 (x3 ++ [1]) (wrap64 (x4 + 1))) else (none)))))) else (none)) else (some x3)
def steelyardref14_Deeps.f (k : Nat) (l0 : List (S52)) : Option (List Int) := steelyardref14_Deeps.l0 k l0 ([] : List Int) 0
theorem steelyardref14_Deeps.mono_l : ∀ k, (∀ y0 y1 y2, LeO (steelyardref14_Deeps.l0 k y0 y1 y2) (steelyardref14_Deeps.l0 (k + 1) y0 y1 y2))
  | 0 => fun _ _ _ r h => by simp [steelyardref14_Deeps.l0] at h
  | k + 1 => by
    have ih0 := steelyardref14_Deeps.mono_l k
    · intro y0 y1 y2
      unfold steelyardref14_Deeps.l0
      repeat' first
      | (with_reducible exact ih0 _ _ _)
      | (with_reducible exact LeO.refl _)
      | (with_reducible exact LeO.none _)
      | (with_reducible refine LeO.ite ?_ ?_)
      | (with_reducible refine LeO.bind ?_ (fun _ => ?_))
      | exact ih0 _ _ _
      | exact LeO.none _
      | refine LeO.ite ?_ ?_
      | refine LeO.bind ?_ (fun _ => ?_)
theorem steelyardref14_Deeps.mono : ∀ a0 k, LeO (steelyardref14_Deeps.f k a0) (steelyardref14_Deeps.f (k + 1) a0) := by
  intro a0 k
  have ih0 := steelyardref14_Deeps.mono_l k
  unfold steelyardref14_Deeps.f
  repeat' first
      | (with_reducible exact ih0 _ _ _)
      | (with_reducible exact LeO.refl _)
      | (with_reducible exact LeO.none _)
      | (with_reducible refine LeO.ite ?_ ?_)
      | (with_reducible refine LeO.bind ?_ (fun _ => ?_))
      | exact ih0 _ _ _
      | exact LeO.none _
      | refine LeO.ite ?_ ?_
      | refine LeO.bind ?_ (fun _ => ?_)
def steelyardkeep_Bare.l0 : Nat → List (S52) → Int → Option ((List (S52)))
  | 0, _, _ => none
  | k + 1, x3, x4 => if x4 < (x3.length : Int) then (if 0 ≤ x4 then (steelyardkeep_Bare.l0 k (x3.set (x4 : Int).toNat (⟨(rd_T52 x3 x4).f0, (rd_T52 x3 x4).f1, (rd_T52 x3 x4).f2, (rd_T52 x3 x4).f3, (rd_T52 x3 x4).f4, (rd_T52 x3 x4).f5, 0⟩ : S52)) (wrap64 (x4 + 1))) else (none)) else (some x3)
def steelyardkeep_Bare.f (k : Nat) (l0 : List (S52)) : Option ((List (S52))) := (steelyardkeep_OwnTree.f l0).bind fun t260 => (steelyardkeep_Bare.l0 k t260 0)
theorem steelyardkeep_Bare.mono_l : ∀ k, (∀ y0 y1, LeO (steelyardkeep_Bare.l0 k y0 y1) (steelyardkeep_Bare.l0 (k + 1) y0 y1))
  | 0 => fun _ _ r h => by simp [steelyardkeep_Bare.l0] at h
  | k + 1 => by
    have ih0 := steelyardkeep_Bare.mono_l k
    · intro y0 y1
      unfold steelyardkeep_Bare.l0
      repeat' first
      | (with_reducible exact ih0 _ _)
      | (with_reducible exact LeO.refl _)
      | (with_reducible exact LeO.none _)
      | (with_reducible refine LeO.ite ?_ ?_)
      | (with_reducible refine LeO.bind ?_ (fun _ => ?_))
      | exact ih0 _ _
      | exact LeO.none _
      | refine LeO.ite ?_ ?_
      | refine LeO.bind ?_ (fun _ => ?_)
theorem steelyardkeep_Bare.mono : ∀ a0 k, LeO (steelyardkeep_Bare.f k a0) (steelyardkeep_Bare.f (k + 1) a0) := by
  intro a0 k
  have ih0 := steelyardkeep_Bare.mono_l k
  unfold steelyardkeep_Bare.f
  repeat' first
      | (with_reducible exact ih0 _ _)
      | (with_reducible exact LeO.refl _)
      | (with_reducible exact LeO.none _)
      | (with_reducible refine LeO.ite ?_ ?_)
      | (with_reducible refine LeO.bind ?_ (fun _ => ?_))
      | exact ih0 _ _
      | exact LeO.none _
      | refine LeO.ite ?_ ?_
      | refine LeO.bind ?_ (fun _ => ?_)
end Go.Proofs.YtcajdkncohcaeaaDoor.GTree
