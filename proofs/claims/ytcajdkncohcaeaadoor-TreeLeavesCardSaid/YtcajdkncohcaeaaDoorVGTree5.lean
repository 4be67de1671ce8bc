import Derived.Test.YtcajdkncohcaeaaDoorVTrI
import Derived.Test.YtcajdkncohcaeaaDoorVGTree0
import Derived.Test.YtcajdkncohcaeaaDoorVGTree4
namespace Go.Proofs.YtcajdkncohcaeaaDoor.GTree
open Go.RowKit Go.Proofs.YtcajdkncohcaeaaDoorW.PrintWords Go.Proofs.YtcajdkncohcaeaaDoorW.PrintLast Go.Proofs.YtcajdkncohcaeaaDoorW.PrintMore
attribute [local go_sem] max2_int min2_int max_two min_two max_three min_three max_four min_four   -- for this text's walks alone
set_option linter.unusedVariables false
set_option linter.unusedSimpArgs false
def steelyardref14_whole.f (l0 : List (S52)) : Option ((List (S52))) := (steelyardref14_Good.f l0).bind fun t186 => (if t186 = true then (some l0) else (some ([] : List (S52))))
def steelyardref14_Leaf.f (a0_0 : Int) (a0_1 : Int) (a0_2 : Int) (a0_3 : Int) (a0_4 : ByteArray) (a0_5 : ByteArray) (a0_6 : Int) : Option ((List (S52))) := (steelyardref14_whole.f (([(⟨a0_0, a0_1, a0_2, a0_3, a0_4, a0_5, a0_6⟩ : S52)] : List (S52)))).bind fun t191 => (some t191)
def steelyardref14_Two.f (a0 : Int) : Option Bool := some (twoK a0)
theorem steelyardref14_Two.calls (a0 : Int) (r : Bool) (w : World) (h : steelyardref14_Two.f a0 = some r) : Calls Tryd.prog 40 #[.int .i64 a0] w fun e w' => e = .returned (.bool r) ∧ Below w.heap.size w w' := two_calls a0 r w h
mutual
def steelyardref14_Join.j0 : Nat → Int → List (S52) → List (S52) → Bool → Option ((List (S52)))
  | 0, _, _, _, _ => none
  | k + 1, x0, x1, x2, x22 => if x22 = true then (some ([] : List (S52))) else ((some (([] : List (S52)) : List (S52))).bind fun y197 => (if y197.length + x1.length < 1954687338268 then (steelyardref14_Join.l0 k x0 x1 x2 (y197 ++ x1) 0) else (none)))
def steelyardref14_Join.l0 : Nat → Int → List (S52) → List (S52) → List (S52) → Int → Option ((List (S52)))
  | 0, _, _, _, _, _ => none
  | k + 1, x0, x1, x2, x7, x8 => if x8 < (x2.length : Int) then (if 0 ≤ x8 then ((steelyardref14_Two.f ((rd_T52 x2 x8).f0)).bind fun t211 => (if t211 = true then (steelyardref14_Join.j2 k x0 x1 x2 x7 x8 true ((rd_T52 x2 x8).f0) ((rd_T52 x2 x8).f1) ((rd_T52 x2 x8).f2) ((rd_T52 x2 x8).f3) ((rd_T52 x2 x8).f4) ((rd_T52 x2 x8).f5) ((rd_T52 x2 x8).f6)) else (if ((rd_T52 x2 x8).f0) = 7 then (steelyardref14_Join.j2 k x0 x1 x2 x7 x8 true ((rd_T52 x2 x8).f0) ((rd_T52 x2 x8).f1) ((rd_T52 x2 x8).f2) ((rd_T52 x2 x8).f3) ((rd_T52 x2 x8).f4) ((rd_T52 x2 x8).f5) ((rd_T52 x2 x8).f6)) else (steelyardref14_Join.j2 k x0 x1 x2 x7 x8 (((rd_T52 x2 x8).f0) == 8) ((rd_T52 x2 x8).f0) ((rd_T52 x2 x8).f1) ((rd_T52 x2 x8).f2) ((rd_T52 x2 x8).f3) ((rd_T52 x2 x8).f4) ((rd_T52 x2 x8).f5) ((rd_T52 x2 x8).f6))))) else (none)) else (if x7.length < 1954687338268 then ((steelyardref14_whole.f (x7 ++ [(⟨x0, wrap64 ((x1.length : Int) - 1), wrap64 ((wrap64 ((x1.length : Int) + (x2.length : Int))) - 1), 0, (⟨#[]⟩ : ByteArray), (⟨#[]⟩ : ByteArray), 0⟩ : S52)])).bind fun t206 => (some t206)) else (none))
def steelyardref14_Join.j2 : Nat → Int → List (S52) → List (S52) → List (S52) → Int → Bool → Int → Int → Int → Int → ByteArray → ByteArray → Int → Option ((List (S52)))
  | 0, _, _, _, _, _, _, _, _, _, _, _, _, _ => none
  | k + 1, x0, x1, x2, x7, x8, x48, x211000, x211001, x211002, x211003, x211004, x211005, x211006 => if x48 = true then ((steelyardref14_Two.f x211000).bind fun t212 => (if t212 = true then (if x7.length < 1954687338268 then (steelyardref14_Join.l0 k x0 x1 x2 (x7 ++ [(⟨x211000, wrap64 (x211001 + (x1.length : Int)), wrap64 (x211002 + (x1.length : Int)), x211003, x211004, x211005, x211006⟩ : S52)]) (wrap64 (x8 + 1))) else (none)) else (if x7.length < 1954687338268 then (steelyardref14_Join.l0 k x0 x1 x2 (x7 ++ [(⟨x211000, wrap64 (x211001 + (x1.length : Int)), x211002, x211003, x211004, x211005, x211006⟩ : S52)]) (wrap64 (x8 + 1))) else (none)))) else ((steelyardref14_Two.f x211000).bind fun t219 => (if t219 = true then (if x7.length < 1954687338268 then (steelyardref14_Join.l0 k x0 x1 x2 (x7 ++ [(⟨x211000, x211001, wrap64 (x211002 + (x1.length : Int)), x211003, x211004, x211005, x211006⟩ : S52)]) (wrap64 (x8 + 1))) else (none)) else (if x7.length < 1954687338268 then (steelyardref14_Join.l0 k x0 x1 x2 (x7 ++ [(⟨x211000, x211001, x211002, x211003, x211004, x211005, x211006⟩ : S52)]) (wrap64 (x8 + 1))) else (none))))
end
def steelyardref14_Join.f (k : Nat) (a0 : Int) (l1 : List (S52)) (l2 : List (S52)) : Option ((List (S52))) := (steelyardref14_Good.f l1).bind fun t194 => (if t194 = true then ((steelyardref14_Good.f l2).bind fun t195 => (if t195 = true then ((steelyardref14_Two.f a0).bind fun t196 => (steelyardref14_Join.j0 k a0 l1 l2 (!t196))) else (steelyardref14_Join.j0 k a0 l1 l2 true))) else (steelyardref14_Join.j0 k a0 l1 l2 true))
theorem steelyardref14_Join.mono_l : ∀ k, (∀ y0 y1 y2 y3, LeO (steelyardref14_Join.j0 k y0 y1 y2 y3) (steelyardref14_Join.j0 (k + 1) y0 y1 y2 y3)) ∧ (∀ y0 y1 y2 y3 y4, LeO (steelyardref14_Join.l0 k y0 y1 y2 y3 y4) (steelyardref14_Join.l0 (k + 1) y0 y1 y2 y3 y4)) ∧ (∀ y0 y1 y2 y3 y4 y5 y6 y7 y8 y9 y10 y11 y12, LeO (steelyardref14_Join.j2 k y0 y1 y2 y3 y4 y5 y6 y7 y8 y9 y10 y11 y12) (steelyardref14_Join.j2 (k + 1) y0 y1 y2 y3 y4 y5 y6 y7 y8 y9 y10 y11 y12))
  | 0 => ⟨fun _ _ _ _ r h => by simp [steelyardref14_Join.j0] at h, fun _ _ _ _ _ r h => by simp [steelyardref14_Join.l0] at h, fun _ _ _ _ _ _ _ _ _ _ _ _ _ r h => by simp [steelyardref14_Join.j2] at h⟩
  | k + 1 => by
    obtain ⟨ih0, ih1, ih2⟩ := steelyardref14_Join.mono_l k
    refine ⟨?_, ?_, ?_⟩
    · intro y0 y1 y2 y3
      unfold steelyardref14_Join.j0
      repeat' first
      | (with_reducible exact ih0 _ _ _ _)
      | (with_reducible exact ih1 _ _ _ _ _)
      | (with_reducible exact ih2 _ _ _ _ _ _ _ _ _ _ _ _ _)
      | (with_reducible exact LeO.refl _)
      | (with_reducible exact LeO.none _)
      | (with_reducible refine LeO.ite ?_ ?_)
      | (with_reducible refine LeO.bind ?_ (fun _ => ?_))
      | exact ih0 _ _ _ _
      | exact ih1 _ _ _ _ _
      | exact ih2 _ _ _ _ _ _ _ _ _ _ _ _ _
      | exact LeO.none _
      | refine LeO.ite ?_ ?_
      | refine LeO.bind ?_ (fun _ => ?_)
    · intro y0 y1 y2 y3 y4
      unfold steelyardref14_Join.l0
      repeat' first
      | (with_reducible exact ih0 _ _ _ _)
      | (with_reducible exact ih1 _ _ _ _ _)
      | (with_reducible exact ih2 _ _ _ _ _ _ _ _ _ _ _ _ _)
      | (with_reducible exact LeO.refl _)
      | (with_reducible exact LeO.none _)
      | (with_reducible refine LeO.ite ?_ ?_)
      | (with_reducible refine LeO.bind ?_ (fun _ => ?_))
      | exact ih0 _ _ _ _
      | exact ih1 _ _ _ _ _
      | exact ih2 _ _ _ _ _ _ _ _ _ _ _ _ _
      | exact LeO.none _
      | refine LeO.ite ?_ ?_
      | refine LeO.bind ?_ (fun _ => ?_)
    · intro y0 y1 y2 y3 y4 y5 y6 y7 y8 y9 y10 y11 y12
      unfold steelyardref14_Join.j2
      repeat' first
      | (with_reducible exact ih0 _ _ _ _)
      | (with_reducible exact ih1 _ _ _ _ _)
      | (with_reducible exact ih2 _ _ _ _ _ _ _ _ _ _ _ _ _)
      | (with_reducible exact LeO.refl _)
      | (with_reducible exact LeO.none _)
      | (with_reducible refine LeO.ite ?_ ?_)
      | (with_reducible refine LeO.bind ?_ (fun _ => ?_))
      | exact ih0 _ _ _ _
      | exact ih1 _ _ _ _ _
      | exact ih2 _ _ _ _ _ _ _ _ _ _ _ _ _
      | exact LeO.none _
      | refine LeO.ite ?_ ?_
      | refine LeO.bind ?_ (fun _ => ?_)
theorem steelyardref14_Join.mono : ∀ a0 a1 a2 k, LeO (steelyardref14_Join.f k a0 a1 a2) (steelyardref14_Join.f (k + 1) a0 a1 a2) := by
  intro a0 a1 a2 k
  obtain ⟨ih0, ih1, ih2⟩ := steelyardref14_Join.mono_l k
  unfold steelyardref14_Join.f
  repeat' first
      | (with_reducible exact ih0 _ _ _ _)
      | (with_reducible exact ih1 _ _ _ _ _)
      | (with_reducible exact ih2 _ _ _ _ _ _ _ _ _ _ _ _ _)
      | (with_reducible exact LeO.refl _)
      | (with_reducible exact LeO.none _)
      | (with_reducible refine LeO.ite ?_ ?_)
      | (with_reducible refine LeO.bind ?_ (fun _ => ?_))
      | exact ih0 _ _ _ _
      | exact ih1 _ _ _ _ _
      | exact ih2 _ _ _ _ _ _ _ _ _ _ _ _ _
      | exact LeO.none _
      | refine LeO.ite ?_ ?_
      | refine LeO.bind ?_ (fun _ => ?_)
def steelyardref14_Over.f (l0 : List (S52)) (a1 : Int) (a2 : Int) : Option ((List (S52))) := (steelyardref14_Good.f l0).bind fun t226 => (if t226 = true then ((some (([] : List (S52)) : List (S52))).bind fun y227 => (if y227.length + l0.length < 1954687338268 then ((some (y227 ++ l0 : List (S52))).bind fun y230 => (if y230.length < 1954687338268 then ((steelyardref14_whole.f (y230 ++ [(⟨a1, wrap64 ((l0.length : Int) - 1), 0, a2, (⟨#[]⟩ : ByteArray), (⟨#[]⟩ : ByteArray), 0⟩ : S52)])).bind fun t236 => (some t236)) else (none))) else (none))) else (some ([] : List (S52))))
end Go.Proofs.YtcajdkncohcaeaaDoor.GTree
