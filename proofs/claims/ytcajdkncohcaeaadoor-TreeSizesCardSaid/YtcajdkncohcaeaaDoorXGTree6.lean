import Derived.Test.YtcajdkncohcaeaaDoorXGTree0
import Derived.Test.YtcajdkncohcaeaaDoorXGTree1
import Derived.Test.YtcajdkncohcaeaaDoorXGTree4
import Derived.Test.YtcajdkncohcaeaaDoorXGTree5
namespace Go.Proofs.YtcajdkncohcaeaaDoor.GTree
open Go.RowKit Go.Proofs.YtcajdkncohcaeaaDoorW.PrintWords Go.Proofs.YtcajdkncohcaeaaDoorW.PrintLast Go.Proofs.YtcajdkncohcaeaaDoorW.PrintMore
attribute [local go_sem] max2_int min2_int max_two min_two max_three min_three max_four min_four   -- for this text's walks alone
set_option linter.unusedVariables false
set_option linter.unusedSimpArgs false
attribute [local go_sem high] eqA52
def steelyardkeep_Tree.l0 : Nat → List (S52) → List (S52) → Int → Option (Bool)
  | 0, _, _, _ => none
  | k + 1, x0, x1, x5 => if x5 < (x0.length : Int) then (if 0 ≤ x5 then (if x5 < (x1.length : Int) then (if (!(((rd_T52 x0 x5).f0) == ((rd_T52 x1 x5).f0)) || (!(((rd_T52 x0 x5).f1) == ((rd_T52 x1 x5).f1)) || (!(((rd_T52 x0 x5).f2) == ((rd_T52 x1 x5).f2)) || (!(((rd_T52 x0 x5).f3) == ((rd_T52 x1 x5).f3)) || (!((((rd_T52 x0 x5).f4).toList) == (((rd_T52 x1 x5).f4).toList)) || (!((((rd_T52 x0 x5).f5).toList) == (((rd_T52 x1 x5).f5).toList)) || (!(((rd_T52 x0 x5).f6) == ((rd_T52 x1 x5).f6))))))))) = true then (some false) else (steelyardkeep_Tree.l0 k x0 x1 (wrap64 (x5 + 1)))) else (none)) else (none)) else (some true)
def steelyardkeep_Tree.f (k : Nat) (l0 : List (S52)) (l1 : List (S52)) : Option (Bool) := if (l0.length : Int) = (l1.length : Int) then (steelyardkeep_Tree.l0 k l0 l1 0) else (some false)
theorem steelyardkeep_Tree.mono_l : ∀ k, (∀ y0 y1 y2, LeO (steelyardkeep_Tree.l0 k y0 y1 y2) (steelyardkeep_Tree.l0 (k + 1) y0 y1 y2))
  | 0 => fun _ _ _ r h => by simp [steelyardkeep_Tree.l0] at h
  | k + 1 => by
    have ih0 := steelyardkeep_Tree.mono_l k
    · intro y0 y1 y2
      unfold steelyardkeep_Tree.l0
      repeat' first
      | (with_reducible exact ih0 _ _ _)
      | (with_reducible exact LeO.refl _)
      | (with_reducible exact LeO.none _)
      | (with_reducible refine LeO.ite ?_ ?_)
      | (with_reducible refine LeO.bind ?_ (fun _ => ?_))
      | exact ih0 _ _ _
      | exact LeO.none _
      | refine LeO.ite ?_ ?_
      | refine LeO.bind ?_ (fun _ => ?_)
theorem steelyardkeep_Tree.mono : ∀ a0 a1 k, LeO (steelyardkeep_Tree.f k a0 a1) (steelyardkeep_Tree.f (k + 1) a0 a1) := by
  intro a0 a1 k
  have ih0 := steelyardkeep_Tree.mono_l k
  unfold steelyardkeep_Tree.f
  repeat' first
      | (with_reducible exact ih0 _ _ _)
      | (with_reducible exact LeO.refl _)
      | (with_reducible exact LeO.none _)
      | (with_reducible refine LeO.ite ?_ ?_)
      | (with_reducible refine LeO.bind ?_ (fun _ => ?_))
      | exact ih0 _ _ _
      | exact LeO.none _
      | refine LeO.ite ?_ ?_
      | refine LeO.bind ?_ (fun _ => ?_)
set_option maxHeartbeats 8000000 in
set_option maxRecDepth 100000 in
theorem steelyardkeep_Tree.calls (k : Nat) (A0 : Option Addr) (c0 : Nat) (l0 : List (S52)) (A1 : Option Addr) (c1 : Nat) (l1 : List (S52)) (r : Bool) (w : World) (hr0 : Kd.C k52 w A0 l0.length l0) (hc0 : l0.length ≤ c0) (hr1 : Kd.C k52 w A1 l1.length l1) (hc1 : l1.length ≤ c1) (h : steelyardkeep_Tree.f k l0 l1 = some r) :
    Calls Tryd.prog 33 #[.slice A0 l0.length c0, .slice A1 l1.length c1] w fun e w' => e = .returned (.bool r) ∧ Drawn0 w w' := by
  have hu52 := Tryd.underlying52
  have HR0 := Aside0.mk hr0
  have HC0 := Aside0.mk hc0
  clear hr0 hc0
  have HR1 := Aside0.mk hr1
  have HC1 := Aside0.mk hc1
  clear hr1 hc1
  have H : (if (l0.length : Int) = (l1.length : Int) then (steelyardkeep_Tree.l0 k l0 l1 0) else (some false)) = some r := h
  clear h
  by_cases c3 : (l0.length : Int) = (l1.length : Int)
  · rw [if_pos c3] at H
    have c3b0 : ((l0.length : Int) == (l1.length : Int)) = true := beq_iff_eq.mpr c3
    have c3b1 : ((l0.length : Int) != (l1.length : Int)) = false := bne_eq_false_iff_eq.mpr c3
    have c3b2 : (l0.length == l1.length) = true := by first | simpa using c3 | (simp at c3 ⊢; omega)
    clear c3
    have H' := Aside0.mk H
    clear H
    go_enter Tryd.func33, Tryd.ntmps33
    go_wp2
    repeat (go_quiet (fail); try go_wp2)
    go_loopg [5] k (fun kq v5 w' => ∃ (x5_1 : Int), v5 = .int .i64 x5_1 ∧ Aside0 (steelyardkeep_Tree.l0 kq l0 l1 x5_1 = some r) ∧ Aside0 (kq ≤ k) ∧ Drawn0 w w')
    case atStart => exact ⟨(0), (by first | rfl | (simp; done) | (simp [*]; done)), H', ⟨Nat.le_refl _⟩, by repeat (first | exact Drawn0.refl _ | apply Drawn0.step)⟩
    case round =>
      clear H'
      try clear c1
      try clear p2
      try clear c3
      try clear c3b0
      try clear c3b1
      try clear c3b2
      obtain ⟨x5_1, rfl, HA, HK1, ⟨m1, rfl⟩⟩ := hrel
      cases gk with
      | zero => exact absurd HA.out (by simp [steelyardkeep_Tree.l0])
      | succ k1 =>
        have H := HA.out
        clear HA
        simp only [steelyardkeep_Tree.l0] at H
        by_cases c4 : x5_1 < (l0.length : Int)
        · rw [if_pos c4] at H
          have c4b0 : decide (x5_1 < (l0.length : Int)) = true := decide_eq_true c4
          clear c4
          by_cases c5 : 0 ≤ x5_1
          · rw [if_pos c5] at H
            have c5b0 : decide (0 ≤ x5_1) = true := decide_eq_true c5
            clear c5
            by_cases c6 : x5_1 < (l1.length : Int)
            · rw [if_pos c6] at H
              have c6b0 : decide (x5_1 < (l1.length : Int)) = true := decide_eq_true c6
              clear c6
              by_cases c7 : (!(((rd_T52 l0 x5_1).f0) == ((rd_T52 l1 x5_1).f0)) || (!(((rd_T52 l0 x5_1).f1) == ((rd_T52 l1 x5_1).f1)) || (!(((rd_T52 l0 x5_1).f2) == ((rd_T52 l1 x5_1).f2)) || (!(((rd_T52 l0 x5_1).f3) == ((rd_T52 l1 x5_1).f3)) || (!((((rd_T52 l0 x5_1).f4).toList) == (((rd_T52 l1 x5_1).f4).toList)) || (!((((rd_T52 l0 x5_1).f5).toList) == (((rd_T52 l1 x5_1).f5).toList)) || (!(((rd_T52 l0 x5_1).f6) == ((rd_T52 l1 x5_1).f6))))))))) = true
              · rw [if_pos c7] at H
                have c7b0 : (!(((rd_T52 l0 x5_1).f0) == ((rd_T52 l1 x5_1).f0)) || (!(((rd_T52 l0 x5_1).f1) == ((rd_T52 l1 x5_1).f1)) || (!(((rd_T52 l0 x5_1).f2) == ((rd_T52 l1 x5_1).f2)) || (!(((rd_T52 l0 x5_1).f3) == ((rd_T52 l1 x5_1).f3)) || (!((((rd_T52 l0 x5_1).f4).toList) == (((rd_T52 l1 x5_1).f4).toList)) || (!((((rd_T52 l0 x5_1).f5).toList) == (((rd_T52 l1 x5_1).f5).toList)) || (!(((rd_T52 l0 x5_1).f6) == ((rd_T52 l1 x5_1).f6))))))))) = true := c7
                clear c7
                obtain rfl := Option.some.inj H
                have p239 : 0 ≤ (x5_1 : Int) := of_decide_eq_true (by first | (with_reducible assumption) | assumption)
                have q239 : x5_1 < (l0.length : Int) := of_decide_eq_true (by first | (with_reducible assumption) | assumption)
                obtain ⟨ad239, e239, hx239_0, hx239_1, hx239_2, hx239_3, hx239_4, hx239_5, hx239_6⟩ := at_T52 HR0.out x5_1 p239 q239
                cases e239
                replace p239 := eq_true p239
                replace q239 := eq_true q239
                have p240 : 0 ≤ (x5_1 : Int) := of_decide_eq_true (by first | (with_reducible assumption) | assumption)
                have q240 : x5_1 < (l1.length : Int) := of_decide_eq_true (by first | (with_reducible assumption) | assumption)
                obtain ⟨ad240, e240, hx240_0, hx240_1, hx240_2, hx240_3, hx240_4, hx240_5, hx240_6⟩ := at_T52 HR1.out x5_1 p240 q240
                cases e240
                replace p240 := eq_true p240
                replace q240 := eq_true q240
                go_wp2
                repeat (go_quiet (fail); try go_wp2)
                go_ret
                exact ⟨by first | rfl | (simp; done) | (simp [*]; done), by repeat (first | exact Drawn0.refl _ | apply Drawn0.step)⟩
              · rw [if_neg c7] at H
                have c7b0 : (!(((rd_T52 l0 x5_1).f0) == ((rd_T52 l1 x5_1).f0)) || (!(((rd_T52 l0 x5_1).f1) == ((rd_T52 l1 x5_1).f1)) || (!(((rd_T52 l0 x5_1).f2) == ((rd_T52 l1 x5_1).f2)) || (!(((rd_T52 l0 x5_1).f3) == ((rd_T52 l1 x5_1).f3)) || (!((((rd_T52 l0 x5_1).f4).toList) == (((rd_T52 l1 x5_1).f4).toList)) || (!((((rd_T52 l0 x5_1).f5).toList) == (((rd_T52 l1 x5_1).f5).toList)) || (!(((rd_T52 l0 x5_1).f6) == ((rd_T52 l1 x5_1).f6))))))))) = false := by simpa using c7
                clear c7
                have H' := Aside0.mk H
                clear H
                have p239 : 0 ≤ (x5_1 : Int) := of_decide_eq_true (by first | (with_reducible assumption) | assumption)
                have q239 : x5_1 < (l0.length : Int) := of_decide_eq_true (by first | (with_reducible assumption) | assumption)
                obtain ⟨ad239, e239, hx239_0, hx239_1, hx239_2, hx239_3, hx239_4, hx239_5, hx239_6⟩ := at_T52 HR0.out x5_1 p239 q239
                cases e239
                replace p239 := eq_true p239
                replace q239 := eq_true q239
                have p240 : 0 ≤ (x5_1 : Int) := of_decide_eq_true (by first | (with_reducible assumption) | assumption)
                have q240 : x5_1 < (l1.length : Int) := of_decide_eq_true (by first | (with_reducible assumption) | assumption)
                obtain ⟨ad240, e240, hx240_0, hx240_1, hx240_2, hx240_3, hx240_4, hx240_5, hx240_6⟩ := at_T52 HR1.out x5_1 p240 q240
                cases e240
                replace p240 := eq_true p240
                replace q240 := eq_true q240
                go_wp2
                repeat (go_quiet (fail); try go_wp2)
                go_roundg k1
                case measure => have := HK1.out; omega
                case rel => exact ⟨(wrap64 (x5_1 + 1)), (by first | rfl | (simp; done) | (simp [*]; done)), H', ⟨by have := HK1.out; omega⟩, by repeat (first | exact Drawn0.refl _ | apply Drawn0.step)⟩
            · rw [if_neg c6] at H
              exact absurd H (by simp)
          · rw [if_neg c5] at H
            exact absurd H (by simp)
        · rw [if_neg c4] at H
          have c4b0 : decide (x5_1 < (l0.length : Int)) = false := decide_eq_false c4
          clear c4
          obtain rfl := Option.some.inj H
          go_wp2
          repeat (go_quiet (fail); try go_wp2)
          go_ret
          exact ⟨by first | rfl | (simp; done) | (simp [*]; done), by repeat (first | exact Drawn0.refl _ | apply Drawn0.step)⟩
  · rw [if_neg c3] at H
    have c3b0 : ((l0.length : Int) == (l1.length : Int)) = false := beq_eq_false_iff_ne.mpr c3
    have c3b1 : ((l0.length : Int) != (l1.length : Int)) = true := bne_iff_ne.mpr c3
    have c3b2 : (l0.length == l1.length) = false := by first | simpa using c3 | (simp at c3 ⊢; omega)
    obtain rfl := Option.some.inj H
    go_enter Tryd.func33, Tryd.ntmps33
    go_wp2
    repeat (go_quiet (fail); try go_wp2)
    go_ret
    exact ⟨by first | rfl | (simp; done) | (simp [*]; done), by repeat (first | exact Drawn0.refl _ | apply Drawn0.step)⟩
def steelyardref14_Deeps.l0 : Nat → List (S52) → List Int → Int → Option (List Int)
  | 0, _, _, _ => none
  | k + 1, x0, x3, x4 => if x4 < (x0.length : Int) then (if 0 ≤ x4 then ((steelyardref14_Two.f ((rd_T52 x0 x4).f0)).bind fun t243 => (if t243 = true then (if 0 ≤ ((rd_T52 x0 x4).f1) then (if ((rd_T52 x0 x4).f1) < (x3.length : Int) then (if 0 ≤ ((rd_T52 x0 x4).f2) then (if ((rd_T52 x0 x4).f2) < (x3.length : Int) then (if x3.length < 17592186044416 then (steelyardref14_Deeps.l0 k x0 (x3 ++ [wrap64 (1 + (mx (rd x3 ((rd_T52 x0 x4).f1)) (rd x3 ((rd_T52 x0 x4).f2))))]) (wrap64 (x4 + 1))) else (none)) else (none)) else (none)) else (none)) else (none)) else (if ((rd_T52 x0 x4).f0) = 7 then (if 0 ≤ ((rd_T52 x0 x4).f1) then (if ((rd_T52 x0 x4).f1) < (x3.length : Int) then (if x3.length < 17592186044416 then (steelyardref14_Deeps.l0 k x0 (x3 ++ [wrap64 (1 + (rd x3 ((rd_T52 x0 x4).f1)))]) (wrap64 (x4 + 1))) else (none)) else (none)) else (none)) else (if ((rd_T52 x0 x4).f0) = 8 then (if 0 ≤ ((rd_T52 x0 x4).f1) then (if ((rd_T52 x0 x4).f1) < (x3.length : Int) then (if x3.length < 17592186044416 then (steelyardref14_Deeps.l0 k x0 (x3 ++ [wrap64 (1 + (rd x3 ((rd_T52 x0 x4).f1)))]) (wrap64 (x4 + 1))) else (none)) else (none)) else (none)) else (if x3.length < 17592186044416 then (steelyardref14_Deeps.l0 k x0 (x3 ++ [1]) (wrap64 (x4 + 1))) else (none)))))) else (none)) else (some x3)
def steelyardref14_Deeps.f (k : Nat) (l0 : List (S52)) : Option (List Int) := steelyardref14_Deeps.l0 k l0 ([] : List Int) 0
theorem steelyardref14_Deeps.mono_l : ∀ k, (∀ y0 y1 y2, LeO (steelyardref14_Deeps.l0 k y0 y1 y2) (steelyardref14_Deeps.l0 (k + 1) y0 y1 y2))
  | 0 => fun _ _ _ r h => by simp [steelyardref14_Deeps.l0] at h
  | k + 1 => by
    have ih0 := steelyardref14_Deeps.mono_l k
    · intro y0 y1 y2
      unfold steelyardref14_Deeps.l0
      repeat' first
      | (with_reducible exact ih0 _ _ _)
      | (with_reducible exact LeO.refl _)
      | (with_reducible exact LeO.none _)
      | (with_reducible refine LeO.ite ?_ ?_)
      | (with_reducible refine LeO.bind ?_ (fun _ => ?_))
      | exact ih0 _ _ _
      | exact LeO.none _
      | refine LeO.ite ?_ ?_
      | refine LeO.bind ?_ (fun _ => ?_)
theorem steelyardref14_Deeps.mono : ∀ a0 k, LeO (steelyardref14_Deeps.f k a0) (steelyardref14_Deeps.f (k + 1) a0) := by
  intro a0 k
  have ih0 := steelyardref14_Deeps.mono_l k
  unfold steelyardref14_Deeps.f
  repeat' first
      | (with_reducible exact ih0 _ _ _)
      | (with_reducible exact LeO.refl _)
      | (with_reducible exact LeO.none _)
      | (with_reducible refine LeO.ite ?_ ?_)
      | (with_reducible refine LeO.bind ?_ (fun _ => ?_))
      | exact ih0 _ _ _
      | exact LeO.none _
      | refine LeO.ite ?_ ?_
      | refine LeO.bind ?_ (fun _ => ?_)
def steelyardkeep_Bare.l0 : Nat → List (S52) → Int → Option ((List (S52)))
  | 0, _, _ => none
  | k + 1, x3, x4 => if x4 < (x3.length : Int) then (if 0 ≤ x4 then (steelyardkeep_Bare.l0 k (x3.set (x4 : Int).toNat (⟨(rd_T52 x3 x4).f0, (rd_T52 x3 x4).f1, (rd_T52 x3 x4).f2, (rd_T52 x3 x4).f3, (rd_T52 x3 x4).f4, (rd_T52 x3 x4).f5, 0⟩ : S52)) (wrap64 (x4 + 1))) else (none)) else (some x3)
def steelyardkeep_Bare.f (k : Nat) (l0 : List (S52)) : Option ((List (S52))) := (steelyardkeep_OwnTree.f l0).bind fun t260 => (steelyardkeep_Bare.l0 k t260 0)
theorem steelyardkeep_Bare.mono_l : ∀ k, (∀ y0 y1, LeO (steelyardkeep_Bare.l0 k y0 y1) (steelyardkeep_Bare.l0 (k + 1) y0 y1))
  | 0 => fun _ _ r h => by simp [steelyardkeep_Bare.l0] at h
  | k + 1 => by
    have ih0 := steelyardkeep_Bare.mono_l k
    · intro y0 y1
      unfold steelyardkeep_Bare.l0
      repeat' first
      | (with_reducible exact ih0 _ _)
      | (with_reducible exact LeO.refl _)
      | (with_reducible exact LeO.none _)
      | (with_reducible refine LeO.ite ?_ ?_)
      | (with_reducible refine LeO.bind ?_ (fun _ => ?_))
      | exact ih0 _ _
      | exact LeO.none _
      | refine LeO.ite ?_ ?_
      | refine LeO.bind ?_ (fun _ => ?_)
theorem steelyardkeep_Bare.mono : ∀ a0 k, LeO (steelyardkeep_Bare.f k a0) (steelyardkeep_Bare.f (k + 1) a0) := by
  intro a0 k
  have ih0 := steelyardkeep_Bare.mono_l k
  unfold steelyardkeep_Bare.f
  repeat' first
      | (with_reducible exact ih0 _ _)
      | (with_reducible exact LeO.refl _)
      | (with_reducible exact LeO.none _)
      | (with_reducible refine LeO.ite ?_ ?_)
      | (with_reducible refine LeO.bind ?_ (fun _ => ?_))
      | exact ih0 _ _
      | exact LeO.none _
      | refine LeO.ite ?_ ?_
      | refine LeO.bind ?_ (fun _ => ?_)
end Go.Proofs.YtcajdkncohcaeaaDoor.GTree
