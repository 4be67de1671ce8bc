import Derived.Test.YtcajdkncohcaeaaDoorXGTree0
import Derived.Test.YtcajdkncohcaeaaDoorXGTree2
import Derived.Test.YtcajdkncohcaeaaDoorXGTree3
import Derived.Test.YtcajdkncohcaeaaDoorXGTree4
import Derived.Test.YtcajdkncohcaeaaDoorXGTree6
namespace Go.Proofs.YtcajdkncohcaeaaDoor.GTree
open Go.RowKit Go.Proofs.YtcajdkncohcaeaaDoorW.PrintWords Go.Proofs.YtcajdkncohcaeaaDoorW.PrintLast Go.Proofs.YtcajdkncohcaeaaDoorW.PrintMore
attribute [local go_sem] max2_int min2_int max_two min_two max_three min_three max_four min_four   -- for this text's walks alone
set_option linter.unusedVariables false
set_option linter.unusedSimpArgs false
mutual
def steelyardlaw14_TreeSizes.j0 : Nat → List (S52) → List (S52) → Int → Bool → Option (Bool)
  | 0, _, _, _, _ => none
  | k + 1, x0, x1, x2, x36 => if x36 = true then ((steelyardlaw14_wakes.f).bind fun t337 => (some t337)) else ((tree_Join.f k 4 x0 x1).bind fun bt338 => ((tree_Neg.f k x0).bind fun bt342 => ((tree_Pow.f k x1 (Int.tmod (wrap64 (x2)) 65)).bind fun bt346 => (if bt338.2 = true then (if bt342.2 = true then (if bt346.2 = true then (if (bt338.1.length : Int) = (wrap64 ((wrap64 ((x0.length : Int) + (x1.length : Int))) + 1)) then (if (bt342.1.length : Int) = (wrap64 ((x0.length : Int) + 1)) then (if (bt346.1.length : Int) = (wrap64 ((x1.length : Int) + 1)) then ((tree_Good.f k bt338.1).bind fun t350 => (if t350 = true then ((tree_Good.f k bt342.1).bind fun t351 => (if t351 = true then ((tree_Good.f k bt346.1).bind fun t352 => (steelyardlaw14_TreeSizes.j1 k x0 x1 bt338.1 bt342.1 bt346.1 (!t352))) else (steelyardlaw14_TreeSizes.j1 k x0 x1 bt338.1 bt342.1 bt346.1 true))) else (steelyardlaw14_TreeSizes.j1 k x0 x1 bt338.1 bt342.1 bt346.1 true))) else (steelyardlaw14_TreeSizes.j1 k x0 x1 bt338.1 bt342.1 bt346.1 true)) else (steelyardlaw14_TreeSizes.j1 k x0 x1 bt338.1 bt342.1 bt346.1 true)) else (steelyardlaw14_TreeSizes.j1 k x0 x1 bt338.1 bt342.1 bt346.1 true)) else (steelyardlaw14_TreeSizes.j1 k x0 x1 bt338.1 bt342.1 bt346.1 true)) else (steelyardlaw14_TreeSizes.j1 k x0 x1 bt338.1 bt342.1 bt346.1 true)) else (steelyardlaw14_TreeSizes.j1 k x0 x1 bt338.1 bt342.1 bt346.1 true)))))
def steelyardlaw14_TreeSizes.j1 : Nat → List (S52) → List (S52) → List (S52) → List (S52) → List (S52) → Bool → Option (Bool)
  | 0, _, _, _, _, _, _ => none
  | k + 1, x0, x1, x7, x9, x11, x108 => if x108 = true then (some false) else (if 0 ≤ (x0.length : Int) then (if (x0.length : Int) ≤ (x7.length : Int) then ((steelyardkeep_Tree.f k (x7.take ((x0.length : Int) : Int).toNat) x0).bind fun t357 => (if t357 = true then (if (x0.length : Int) ≤ (x9.length : Int) then ((steelyardkeep_Tree.f k (x9.take ((x0.length : Int) : Int).toNat) x0).bind fun t362 => (if t362 = true then (if 0 ≤ (x1.length : Int) then (if (x1.length : Int) ≤ (x11.length : Int) then ((steelyardkeep_Tree.f k (x11.take ((x1.length : Int) : Int).toNat) x1).bind fun t367 => (if t367 = true then (if 0 ≤ (wrap64 ((x7.length : Int) - 1)) then (if (wrap64 ((x7.length : Int) - 1)) ≤ (x7.length : Int) then ((tree_Good.f k (x7.take ((wrap64 ((x7.length : Int) - 1)) : Int).toNat)).bind fun t372 => (steelyardlaw14_TreeSizes.j2 k x0 x1 x7 x9 x11 t372)) else (none)) else (none)) else (steelyardlaw14_TreeSizes.j2 k x0 x1 x7 x9 x11 true))) else (none)) else (none)) else (steelyardlaw14_TreeSizes.j2 k x0 x1 x7 x9 x11 true))) else (none)) else (steelyardlaw14_TreeSizes.j2 k x0 x1 x7 x9 x11 true))) else (none)) else (none))
def steelyardlaw14_TreeSizes.j2 : Nat → List (S52) → List (S52) → List (S52) → List (S52) → List (S52) → Bool → Option (Bool)
  | 0, _, _, _, _, _, _ => none
  | k + 1, x0, x1, x7, x9, x11, x141 => if x141 = true then (some false) else ((tree_Deep.f k x7).bind fun t373 => ((tree_Deep.f k x0).bind fun t374 => ((tree_Deep.f k x1).bind fun t375 => (if t373 = (wrap64 (1 + (mx t374 t375))) then ((tree_Deep.f k x9).bind fun t376 => ((tree_Deep.f k x0).bind fun t377 => (if t376 = (wrap64 (1 + t377)) then ((tree_Deep.f k x11).bind fun t378 => ((tree_Deep.f k x1).bind fun t379 => (if t378 = (wrap64 (1 + t379)) then ((tree_Deep.f k x0).bind fun t380 => (if t380 ≥ 1 then ((steelyardlaw14_wakes.f).bind fun t381 => (some t381)) else (some false))) else (some false)))) else (some false)))) else (some false)))))
end
def steelyardlaw14_TreeSizes.f (k : Nat) (l0 : List (S52)) (l1 : List (S52)) (a2 : Int) : Option (Bool) := (steelyardkeep_LargeTree.f k l0).bind fun t333 => (if t333 = true then (steelyardlaw14_TreeSizes.j0 k l0 l1 a2 true) else ((steelyardkeep_LargeTree.f k l1).bind fun t334 => (if t334 = true then (steelyardlaw14_TreeSizes.j0 k l0 l1 a2 true) else ((steelyardref14_Good.f l0).bind fun t335 => (if t335 = true then ((steelyardref14_Good.f l1).bind fun t336 => (if t336 = true then (steelyardlaw14_TreeSizes.j0 k l0 l1 a2 (decide ((wrap64 ((l0.length : Int) + (l1.length : Int))) > 1000))) else (steelyardlaw14_TreeSizes.j0 k l0 l1 a2 true))) else (steelyardlaw14_TreeSizes.j0 k l0 l1 a2 true))))))
theorem steelyardlaw14_TreeSizes.mono_l : ∀ k, (∀ y0 y1 y2 y3, LeO (steelyardlaw14_TreeSizes.j0 k y0 y1 y2 y3) (steelyardlaw14_TreeSizes.j0 (k + 1) y0 y1 y2 y3)) ∧ (∀ y0 y1 y2 y3 y4 y5, LeO (steelyardlaw14_TreeSizes.j1 k y0 y1 y2 y3 y4 y5) (steelyardlaw14_TreeSizes.j1 (k + 1) y0 y1 y2 y3 y4 y5)) ∧ (∀ y0 y1 y2 y3 y4 y5, LeO (steelyardlaw14_TreeSizes.j2 k y0 y1 y2 y3 y4 y5) (steelyardlaw14_TreeSizes.j2 (k + 1) y0 y1 y2 y3 y4 y5))
  | 0 => ⟨fun _ _ _ _ r h => by simp [steelyardlaw14_TreeSizes.j0] at h, fun _ _ _ _ _ _ r h => by simp [steelyardlaw14_TreeSizes.j1] at h, fun _ _ _ _ _ _ r h => by simp [steelyardlaw14_TreeSizes.j2] at h⟩
  | k + 1 => by
    obtain ⟨ih0, ih1, ih2⟩ := steelyardlaw14_TreeSizes.mono_l k
    refine ⟨?_, ?_, ?_⟩
    · intro y0 y1 y2 y3
      unfold steelyardlaw14_TreeSizes.j0
      repeat' first
      | (with_reducible exact ih0 _ _ _ _)
      | (with_reducible exact ih1 _ _ _ _ _ _)
      | (with_reducible exact ih2 _ _ _ _ _ _)
      | (with_reducible exact steelyardkeep_LargeTree.mono _ _)
      | (with_reducible exact steelyardkeep_Tree.mono _ _ _)
      | (with_reducible exact tree_Deep.mono _ _)
      | (with_reducible exact tree_Good.mono _ _)
      | (with_reducible exact tree_Join.mono _ _ _ _)
      | (with_reducible exact tree_Neg.mono _ _)
      | (with_reducible exact tree_Pow.mono _ _ _)
      | (with_reducible exact LeO.refl _)
      | (with_reducible exact LeO.none _)
      | (with_reducible refine LeO.ite ?_ ?_)
      | (with_reducible refine LeO.bind ?_ (fun _ => ?_))
      | exact ih0 _ _ _ _
      | exact ih1 _ _ _ _ _ _
      | exact ih2 _ _ _ _ _ _
      | exact steelyardkeep_LargeTree.mono _ _
      | exact steelyardkeep_Tree.mono _ _ _
      | exact tree_Deep.mono _ _
      | exact tree_Good.mono _ _
      | exact tree_Join.mono _ _ _ _
      | exact tree_Neg.mono _ _
      | exact tree_Pow.mono _ _ _
      | exact LeO.none _
      | refine LeO.ite ?_ ?_
      | refine LeO.bind ?_ (fun _ => ?_)
    · intro y0 y1 y2 y3 y4 y5
      unfold steelyardlaw14_TreeSizes.j1
      repeat' first
      | (with_reducible exact ih0 _ _ _ _)
      | (with_reducible exact ih1 _ _ _ _ _ _)
      | (with_reducible exact ih2 _ _ _ _ _ _)
      | (with_reducible exact steelyardkeep_LargeTree.mono _ _)
      | (with_reducible exact steelyardkeep_Tree.mono _ _ _)
      | (with_reducible exact tree_Deep.mono _ _)
      | (with_reducible exact tree_Good.mono _ _)
      | (with_reducible exact tree_Join.mono _ _ _ _)
      | (with_reducible exact tree_Neg.mono _ _)
      | (with_reducible exact tree_Pow.mono _ _ _)
      | (with_reducible exact LeO.refl _)
      | (with_reducible exact LeO.none _)
      | (with_reducible refine LeO.ite ?_ ?_)
      | (with_reducible refine LeO.bind ?_ (fun _ => ?_))
      | exact ih0 _ _ _ _
      | exact ih1 _ _ _ _ _ _
      | exact ih2 _ _ _ _ _ _
      | exact steelyardkeep_LargeTree.mono _ _
      | exact steelyardkeep_Tree.mono _ _ _
      | exact tree_Deep.mono _ _
      | exact tree_Good.mono _ _
      | exact tree_Join.mono _ _ _ _
      | exact tree_Neg.mono _ _
      | exact tree_Pow.mono _ _ _
      | exact LeO.none _
      | refine LeO.ite ?_ ?_
      | refine LeO.bind ?_ (fun _ => ?_)
    · intro y0 y1 y2 y3 y4 y5
      unfold steelyardlaw14_TreeSizes.j2
      repeat' first
      | (with_reducible exact ih0 _ _ _ _)
      | (with_reducible exact ih1 _ _ _ _ _ _)
      | (with_reducible exact ih2 _ _ _ _ _ _)
      | (with_reducible exact steelyardkeep_LargeTree.mono _ _)
      | (with_reducible exact steelyardkeep_Tree.mono _ _ _)
      | (with_reducible exact tree_Deep.mono _ _)
      | (with_reducible exact tree_Good.mono _ _)
      | (with_reducible exact tree_Join.mono _ _ _ _)
      | (with_reducible exact tree_Neg.mono _ _)
      | (with_reducible exact tree_Pow.mono _ _ _)
      | (with_reducible exact LeO.refl _)
      | (with_reducible exact LeO.none _)
      | (with_reducible refine LeO.ite ?_ ?_)
      | (with_reducible refine LeO.bind ?_ (fun _ => ?_))
      | exact ih0 _ _ _ _
      | exact ih1 _ _ _ _ _ _
      | exact ih2 _ _ _ _ _ _
      | exact steelyardkeep_LargeTree.mono _ _
      | exact steelyardkeep_Tree.mono _ _ _
      | exact tree_Deep.mono _ _
      | exact tree_Good.mono _ _
      | exact tree_Join.mono _ _ _ _
      | exact tree_Neg.mono _ _
      | exact tree_Pow.mono _ _ _
      | exact LeO.none _
      | refine LeO.ite ?_ ?_
      | refine LeO.bind ?_ (fun _ => ?_)
theorem steelyardlaw14_TreeSizes.mono : ∀ a0 a1 a2 k, LeO (steelyardlaw14_TreeSizes.f k a0 a1 a2) (steelyardlaw14_TreeSizes.f (k + 1) a0 a1 a2) := by
  intro a0 a1 a2 k
  obtain ⟨ih0, ih1, ih2⟩ := steelyardlaw14_TreeSizes.mono_l k
  unfold steelyardlaw14_TreeSizes.f
  repeat' first
      | (with_reducible exact ih0 _ _ _ _)
      | (with_reducible exact ih1 _ _ _ _ _ _)
      | (with_reducible exact ih2 _ _ _ _ _ _)
      | (with_reducible exact steelyardkeep_LargeTree.mono _ _)
      | (with_reducible exact steelyardkeep_Tree.mono _ _ _)
      | (with_reducible exact tree_Deep.mono _ _)
      | (with_reducible exact tree_Good.mono _ _)
      | (with_reducible exact tree_Join.mono _ _ _ _)
      | (with_reducible exact tree_Neg.mono _ _)
      | (with_reducible exact tree_Pow.mono _ _ _)
      | (with_reducible exact LeO.refl _)
      | (with_reducible exact LeO.none _)
      | (with_reducible refine LeO.ite ?_ ?_)
      | (with_reducible refine LeO.bind ?_ (fun _ => ?_))
      | exact ih0 _ _ _ _
      | exact ih1 _ _ _ _ _ _
      | exact ih2 _ _ _ _ _ _
      | exact steelyardkeep_LargeTree.mono _ _
      | exact steelyardkeep_Tree.mono _ _ _
      | exact tree_Deep.mono _ _
      | exact tree_Good.mono _ _
      | exact tree_Join.mono _ _ _ _
      | exact tree_Neg.mono _ _
      | exact tree_Pow.mono _ _ _
      | exact LeO.none _
      | refine LeO.ite ?_ ?_
      | refine LeO.bind ?_ (fun _ => ?_)
set_option maxHeartbeats 8000000 in
set_option maxRecDepth 100000 in
theorem steelyardlaw14_TreeSizes.calls (k : Nat) (A0 : Option Addr) (c0 : Nat) (l0 : List (S52)) (A1 : Option Addr) (c1 : Nat) (l1 : List (S52)) (a2 : Int) (r : Bool) (w : World) (hr0 : Kd.C k52 w A0 l0.length l0) (hc0 : l0.length ≤ c0) (hr1 : Kd.C k52 w A1 l1.length l1) (hc1 : l1.length ≤ c1) (h : steelyardlaw14_TreeSizes.f k l0 l1 a2 = some r) (hG_ : Glob w) :
    Calls Tryd.prog 8 #[.slice A0 l0.length c0, .slice A1 l1.length c1, .int .i8 a2] w fun e w' => e = .returned (.bool r) ∧ Below w.heap.size w w' := by
  have HG_ := Aside0.mk hG_
  clear hG_
  have HR0 := Aside0.mk hr0
  have HC0 := Aside0.mk hc0
  clear hr0 hc0
  have HR1 := Aside0.mk hr1
  have HC1 := Aside0.mk hc1
  clear hr1 hc1
  have HB := Aside0.mk (Below.refl w.heap.size w)
  have H : ((steelyardkeep_LargeTree.f k l0).bind fun t333 => (if t333 = true then (steelyardlaw14_TreeSizes.j0 k l0 l1 a2 true) else ((steelyardkeep_LargeTree.f k l1).bind fun t334 => (if t334 = true then (steelyardlaw14_TreeSizes.j0 k l0 l1 a2 true) else ((steelyardref14_Good.f l0).bind fun t335 => (if t335 = true then ((steelyardref14_Good.f l1).bind fun t336 => (if t336 = true then (steelyardlaw14_TreeSizes.j0 k l0 l1 a2 (decide ((wrap64 ((l0.length : Int) + (l1.length : Int))) > 1000))) else (steelyardlaw14_TreeSizes.j0 k l0 l1 a2 true))) else (steelyardlaw14_TreeSizes.j0 k l0 l1 a2 true))))))) = some r := h
  clear h
  have HC4 := Aside0.mk H
  clear H
  go_enter Tryd.func8, Tryd.ntmps8
  go_upto_region 1 with (fail)
  go_cut [36] (fun v36 wc => ∃ (kq : Nat) (x36_3 : Bool), v36 = .bool x36_3 ∧ Aside0 (steelyardlaw14_TreeSizes.j0 kq l0 l1 a2 x36_3 = some r) ∧ Aside0 (kq ≤ k) ∧ Aside0 (Below w.heap.size w wc))
  case first => as_aux_lemma =>
    have H := HC4.out
    clear HC4
    replace H := Option.bind_eq_some_iff.mp H
    obtain ⟨t333, A50, H⟩ := H
    replace H : (if t333 = true then (steelyardlaw14_TreeSizes.j0 k l0 l1 a2 true) else ((steelyardkeep_LargeTree.f k l1).bind fun t334 => (if t334 = true then (steelyardlaw14_TreeSizes.j0 k l0 l1 a2 true) else ((steelyardref14_Good.f l0).bind fun t335 => (if t335 = true then ((steelyardref14_Good.f l1).bind fun t336 => (if t336 = true then (steelyardlaw14_TreeSizes.j0 k l0 l1 a2 (decide ((wrap64 ((l0.length : Int) + (l1.length : Int))) > 1000))) else (steelyardlaw14_TreeSizes.j0 k l0 l1 a2 true))) else (steelyardlaw14_TreeSizes.j0 k l0 l1 a2 true)))))) = some r := H
    have A5 := Aside0.mk A50
    clear A50
    by_cases c6 : t333 = true
    · subst c6
      have H1 : (steelyardlaw14_TreeSizes.j0 k l0 l1 a2 true) = some r := by rw [if_pos rfl] at H; exact H
      clear H
      have H := H1
      clear H1
      have H' := Aside0.mk H
      clear H
      go_wp2_with (first | ((with_reducible refine gate_callee (f := 22) rfl ?_); refine goesL_ (some 14) rfl rfl Tryd.func22 (by kernel_rfl) rfl #[.slice A0 l0.length c0] rfl (by (try simp only [List.map_toArray, List.map_cons, List.map_nil]); first | done | rfl | (simp only [List.length_drop, List.length_take]; rfl)) ?_; (with_reducible refine (steelyardkeep_LargeTree.calls k _ _ l0 true _ ?side1 ?side2 A5.out).mono ?_); (case side1 => repeat (first | exact (Kd.C_below HR0.out HB.out) | (with_reducible refine Kd.C_alloc ?_ _) | (with_reducible refine Kd.C_drewN ?_ _) | (with_reducible refine Kd.C_drew ?_))); (case side2 => exact HC0.out); rintro e w7 ⟨rfl, hb⟩; refine ⟨_, rfl, ?_⟩; have n0_ := Aside0.mk (below_step (by repeat (first | (with_reducible first | exact HB.out | apply below_alloc | apply pw_below_drewN | apply below_drew1) | exact HB.out)) hb); clear HB; have HB := n0_; clear n0_; (try clear hb); (try clear hb2); (try clear hk); (try clear hi)))
      go_meet
      case rel => exact ⟨_, (true), (by first | rfl | (simp; done) | (simp [*]; done)), H', ⟨by first | omega | exact Nat.le_refl _⟩, ⟨by repeat (first | (with_reducible first | exact HB.out | apply below_alloc | apply pw_below_drewN | apply below_drew1) | exact HB.out)⟩⟩
    · replace c6 := Bool.eq_false_iff.mpr c6
      subst c6
      have H1 : ((steelyardkeep_LargeTree.f k l1).bind fun t334 => (if t334 = true then (steelyardlaw14_TreeSizes.j0 k l0 l1 a2 true) else ((steelyardref14_Good.f l0).bind fun t335 => (if t335 = true then ((steelyardref14_Good.f l1).bind fun t336 => (if t336 = true then (steelyardlaw14_TreeSizes.j0 k l0 l1 a2 (decide ((wrap64 ((l0.length : Int) + (l1.length : Int))) > 1000))) else (steelyardlaw14_TreeSizes.j0 k l0 l1 a2 true))) else (steelyardlaw14_TreeSizes.j0 k l0 l1 a2 true))))) = some r := by rw [if_neg (show ¬ (false = true) by decide)] at H; exact H
      clear H
      have H := H1
      clear H1
      replace H := Option.bind_eq_some_iff.mp H
      obtain ⟨t334, A80, H⟩ := H
      replace H : (if t334 = true then (steelyardlaw14_TreeSizes.j0 k l0 l1 a2 true) else ((steelyardref14_Good.f l0).bind fun t335 => (if t335 = true then ((steelyardref14_Good.f l1).bind fun t336 => (if t336 = true then (steelyardlaw14_TreeSizes.j0 k l0 l1 a2 (decide ((wrap64 ((l0.length : Int) + (l1.length : Int))) > 1000))) else (steelyardlaw14_TreeSizes.j0 k l0 l1 a2 true))) else (steelyardlaw14_TreeSizes.j0 k l0 l1 a2 true)))) = some r := H
      have A8 := Aside0.mk A80
      clear A80
      by_cases c9 : t334 = true
      · subst c9
        have H1 : (steelyardlaw14_TreeSizes.j0 k l0 l1 a2 true) = some r := by rw [if_pos rfl] at H; exact H
        clear H
        have H := H1
        clear H1
        have H' := Aside0.mk H
        clear H
        go_wp2_with (first | ((with_reducible refine gate_callee (f := 22) rfl ?_); refine goesL_ (some 14) rfl rfl Tryd.func22 (by kernel_rfl) rfl #[.slice A0 l0.length c0] rfl (by (try simp only [List.map_toArray, List.map_cons, List.map_nil]); first | done | rfl | (simp only [List.length_drop, List.length_take]; rfl)) ?_; (with_reducible refine (steelyardkeep_LargeTree.calls k _ _ l0 false _ ?side1 ?side2 A5.out).mono ?_); (case side1 => repeat (first | exact (Kd.C_below HR0.out HB.out) | (with_reducible refine Kd.C_alloc ?_ _) | (with_reducible refine Kd.C_drewN ?_ _) | (with_reducible refine Kd.C_drew ?_))); (case side2 => exact HC0.out); rintro e w10 ⟨rfl, hb⟩; refine ⟨_, rfl, ?_⟩; have n0_ := Aside0.mk (below_step (by repeat (first | (with_reducible first | exact HB.out | apply below_alloc | apply pw_below_drewN | apply below_drew1) | exact HB.out)) hb); clear HB; have HB := n0_; clear n0_; (try clear hb); (try clear hb2); (try clear hk); (try clear hi)) | (go_at_call 22; (with_reducible refine (steelyardkeep_LargeTree.calls k _ _ l1 true _ ?side1 ?side2 A8.out).mono ?_); (case side1 => repeat (first | exact (Kd.C_below HR1.out HB.out) | (with_reducible refine Kd.C_alloc ?_ _) | (with_reducible refine Kd.C_drewN ?_ _) | (with_reducible refine Kd.C_drew ?_))); (case side2 => exact HC1.out); rintro e w11 ⟨rfl, hb⟩; have n0_ := Aside0.mk (below_step (by repeat (first | (with_reducible first | exact HB.out | apply below_alloc | apply pw_below_drewN | apply below_drew1) | exact HB.out)) hb); clear HB; have HB := n0_; clear n0_; (try clear hb); (try clear hb2); (try clear hk); (try clear hi)))
        go_meet
        case rel => exact ⟨_, (true), (by first | rfl | (simp; done) | (simp [*]; done)), H', ⟨by first | omega | exact Nat.le_refl _⟩, ⟨by repeat (first | (with_reducible first | exact HB.out | apply below_alloc | apply pw_below_drewN | apply below_drew1) | exact HB.out)⟩⟩
      · replace c9 := Bool.eq_false_iff.mpr c9
        subst c9
        have H1 : ((steelyardref14_Good.f l0).bind fun t335 => (if t335 = true then ((steelyardref14_Good.f l1).bind fun t336 => (if t336 = true then (steelyardlaw14_TreeSizes.j0 k l0 l1 a2 (decide ((wrap64 ((l0.length : Int) + (l1.length : Int))) > 1000))) else (steelyardlaw14_TreeSizes.j0 k l0 l1 a2 true))) else (steelyardlaw14_TreeSizes.j0 k l0 l1 a2 true))) = some r := by rw [if_neg (show ¬ (false = true) by decide)] at H; exact H
        clear H
        have H := H1
        clear H1
        replace H := Option.bind_eq_some_iff.mp H
        obtain ⟨t335, A120, H⟩ := H
        replace H : (if t335 = true then ((steelyardref14_Good.f l1).bind fun t336 => (if t336 = true then (steelyardlaw14_TreeSizes.j0 k l0 l1 a2 (decide ((wrap64 ((l0.length : Int) + (l1.length : Int))) > 1000))) else (steelyardlaw14_TreeSizes.j0 k l0 l1 a2 true))) else (steelyardlaw14_TreeSizes.j0 k l0 l1 a2 true)) = some r := H
        have A12 := Aside0.mk A120
        clear A120
        by_cases c13 : t335 = true
        · subst c13
          have H1 : ((steelyardref14_Good.f l1).bind fun t336 => (if t336 = true then (steelyardlaw14_TreeSizes.j0 k l0 l1 a2 (decide ((wrap64 ((l0.length : Int) + (l1.length : Int))) > 1000))) else (steelyardlaw14_TreeSizes.j0 k l0 l1 a2 true))) = some r := by rw [if_pos rfl] at H; exact H
          clear H
          have H := H1
          clear H1
          replace H := Option.bind_eq_some_iff.mp H
          obtain ⟨t336, A140, H⟩ := H
          replace H : (if t336 = true then (steelyardlaw14_TreeSizes.j0 k l0 l1 a2 (decide ((wrap64 ((l0.length : Int) + (l1.length : Int))) > 1000))) else (steelyardlaw14_TreeSizes.j0 k l0 l1 a2 true)) = some r := H
          have A14 := Aside0.mk A140
          clear A140
          by_cases c15 : t336 = true
          · subst c15
            have H1 : (steelyardlaw14_TreeSizes.j0 k l0 l1 a2 (decide ((wrap64 ((l0.length : Int) + (l1.length : Int))) > 1000))) = some r := by rw [if_pos rfl] at H; exact H
            clear H
            have H := H1
            clear H1
            have H' := Aside0.mk H
            clear H
            go_wp2_with (first | ((with_reducible refine gate_callee (f := 22) rfl ?_); refine goesL_ (some 14) rfl rfl Tryd.func22 (by kernel_rfl) rfl #[.slice A0 l0.length c0] rfl (by (try simp only [List.map_toArray, List.map_cons, List.map_nil]); first | done | rfl | (simp only [List.length_drop, List.length_take]; rfl)) ?_; (with_reducible refine (steelyardkeep_LargeTree.calls k _ _ l0 false _ ?side1 ?side2 A5.out).mono ?_); (case side1 => repeat (first | exact (Kd.C_below HR0.out HB.out) | (with_reducible refine Kd.C_alloc ?_ _) | (with_reducible refine Kd.C_drewN ?_ _) | (with_reducible refine Kd.C_drew ?_))); (case side2 => exact HC0.out); rintro e w16 ⟨rfl, hb⟩; refine ⟨_, rfl, ?_⟩; have n0_ := Aside0.mk (below_step (by repeat (first | (with_reducible first | exact HB.out | apply below_alloc | apply pw_below_drewN | apply below_drew1) | exact HB.out)) hb); clear HB; have HB := n0_; clear n0_; (try clear hb); (try clear hb2); (try clear hk); (try clear hi)) | (go_at_call 22; (with_reducible refine (steelyardkeep_LargeTree.calls k _ _ l1 false _ ?side1 ?side2 A8.out).mono ?_); (case side1 => repeat (first | exact (Kd.C_below HR1.out HB.out) | (with_reducible refine Kd.C_alloc ?_ _) | (with_reducible refine Kd.C_drewN ?_ _) | (with_reducible refine Kd.C_drew ?_))); (case side2 => exact HC1.out); rintro e w17 ⟨rfl, hb⟩; have n0_ := Aside0.mk (below_step (by repeat (first | (with_reducible first | exact HB.out | apply below_alloc | apply pw_below_drewN | apply below_drew1) | exact HB.out)) hb); clear HB; have HB := n0_; clear n0_; (try clear hb); (try clear hb2); (try clear hk); (try clear hi)) | (go_at_call 34; (with_reducible refine (steelyardref14_Good.calls _ _ l0 true _ ?side1 ?side2 A12.out).mono ?_); (case side1 => repeat (first | exact (Kd.C_below HR0.out HB.out) | (with_reducible refine Kd.C_alloc ?_ _) | (with_reducible refine Kd.C_drewN ?_ _) | (with_reducible refine Kd.C_drew ?_))); (case side2 => exact HC0.out); rintro e w18 ⟨rfl, hb⟩; have n0_ := Aside0.mk (below_step (by repeat (first | (with_reducible first | exact HB.out | apply below_alloc | apply pw_below_drewN | apply below_drew1) | exact HB.out)) hb); clear HB; have HB := n0_; clear n0_; (try clear hb); (try clear hb2); (try clear hk); (try clear hi)) | (go_at_call 34; (with_reducible refine (steelyardref14_Good.calls _ _ l1 true _ ?side1 ?side2 A14.out).mono ?_); (case side1 => repeat (first | exact (Kd.C_below HR1.out HB.out) | (with_reducible refine Kd.C_alloc ?_ _) | (with_reducible refine Kd.C_drewN ?_ _) | (with_reducible refine Kd.C_drew ?_))); (case side2 => exact HC1.out); rintro e w19 ⟨rfl, hb⟩; have n0_ := Aside0.mk (below_step (by repeat (first | (with_reducible first | exact HB.out | apply below_alloc | apply pw_below_drewN | apply below_drew1) | exact HB.out)) hb); clear HB; have HB := n0_; clear n0_; (try clear hb); (try clear hb2); (try clear hk); (try clear hi)))
            go_meet
            case rel => exact ⟨_, (decide ((wrap64 ((l0.length : Int) + (l1.length : Int))) > 1000)), (by first | rfl | (simp; done) | (simp [*]; done)), H', ⟨by first | omega | exact Nat.le_refl _⟩, ⟨by repeat (first | (with_reducible first | exact HB.out | apply below_alloc | apply pw_below_drewN | apply below_drew1) | exact HB.out)⟩⟩
          · replace c15 := Bool.eq_false_iff.mpr c15
            subst c15
            have H1 : (steelyardlaw14_TreeSizes.j0 k l0 l1 a2 true) = some r := by rw [if_neg (show ¬ (false = true) by decide)] at H; exact H
            clear H
            have H := H1
            clear H1
            have H' := Aside0.mk H
            clear H
            go_wp2_with (first | ((with_reducible refine gate_callee (f := 22) rfl ?_); refine goesL_ (some 14) rfl rfl Tryd.func22 (by kernel_rfl) rfl #[.slice A0 l0.length c0] rfl (by (try simp only [List.map_toArray, List.map_cons, List.map_nil]); first | done | rfl | (simp only [List.length_drop, List.length_take]; rfl)) ?_; (with_reducible refine (steelyardkeep_LargeTree.calls k _ _ l0 false _ ?side1 ?side2 A5.out).mono ?_); (case side1 => repeat (first | exact (Kd.C_below HR0.out HB.out) | (with_reducible refine Kd.C_alloc ?_ _) | (with_reducible refine Kd.C_drewN ?_ _) | (with_reducible refine Kd.C_drew ?_))); (case side2 => exact HC0.out); rintro e w20 ⟨rfl, hb⟩; refine ⟨_, rfl, ?_⟩; have n0_ := Aside0.mk (below_step (by repeat (first | (with_reducible first | exact HB.out | apply below_alloc | apply pw_below_drewN | apply below_drew1) | exact HB.out)) hb); clear HB; have HB := n0_; clear n0_; (try clear hb); (try clear hb2); (try clear hk); (try clear hi)) | (go_at_call 22; (with_reducible refine (steelyardkeep_LargeTree.calls k _ _ l1 false _ ?side1 ?side2 A8.out).mono ?_); (case side1 => repeat (first | exact (Kd.C_below HR1.out HB.out) | (with_reducible refine Kd.C_alloc ?_ _) | (with_reducible refine Kd.C_drewN ?_ _) | (with_reducible refine Kd.C_drew ?_))); (case side2 => exact HC1.out); rintro e w21 ⟨rfl, hb⟩; have n0_ := Aside0.mk (below_step (by repeat (first | (with_reducible first | exact HB.out | apply below_alloc | apply pw_below_drewN | apply below_drew1) | exact HB.out)) hb); clear HB; have HB := n0_; clear n0_; (try clear hb); (try clear hb2); (try clear hk); (try clear hi)) | (go_at_call 34; (with_reducible refine (steelyardref14_Good.calls _ _ l0 true _ ?side1 ?side2 A12.out).mono ?_); (case side1 => repeat (first | exact (Kd.C_below HR0.out HB.out) | (with_reducible refine Kd.C_alloc ?_ _) | (with_reducible refine Kd.C_drewN ?_ _) | (with_reducible refine Kd.C_drew ?_))); (case side2 => exact HC0.out); rintro e w22 ⟨rfl, hb⟩; have n0_ := Aside0.mk (below_step (by repeat (first | (with_reducible first | exact HB.out | apply below_alloc | apply pw_below_drewN | apply below_drew1) | exact HB.out)) hb); clear HB; have HB := n0_; clear n0_; (try clear hb); (try clear hb2); (try clear hk); (try clear hi)) | (go_at_call 34; (with_reducible refine (steelyardref14_Good.calls _ _ l1 false _ ?side1 ?side2 A14.out).mono ?_); (case side1 => repeat (first | exact (Kd.C_below HR1.out HB.out) | (with_reducible refine Kd.C_alloc ?_ _) | (with_reducible refine Kd.C_drewN ?_ _) | (with_reducible refine Kd.C_drew ?_))); (case side2 => exact HC1.out); rintro e w23 ⟨rfl, hb⟩; have n0_ := Aside0.mk (below_step (by repeat (first | (with_reducible first | exact HB.out | apply below_alloc | apply pw_below_drewN | apply below_drew1) | exact HB.out)) hb); clear HB; have HB := n0_; clear n0_; (try clear hb); (try clear hb2); (try clear hk); (try clear hi)))
            go_meet
            case rel => exact ⟨_, (true), (by first | rfl | (simp; done) | (simp [*]; done)), H', ⟨by first | omega | exact Nat.le_refl _⟩, ⟨by repeat (first | (with_reducible first | exact HB.out | apply below_alloc | apply pw_below_drewN | apply below_drew1) | exact HB.out)⟩⟩
        · replace c13 := Bool.eq_false_iff.mpr c13
          subst c13
          have H1 : (steelyardlaw14_TreeSizes.j0 k l0 l1 a2 true) = some r := by rw [if_neg (show ¬ (false = true) by decide)] at H; exact H
          clear H
          have H := H1
          clear H1
          have H' := Aside0.mk H
          clear H
          go_wp2_with (first | ((with_reducible refine gate_callee (f := 22) rfl ?_); refine goesL_ (some 14) rfl rfl Tryd.func22 (by kernel_rfl) rfl #[.slice A0 l0.length c0] rfl (by (try simp only [List.map_toArray, List.map_cons, List.map_nil]); first | done | rfl | (simp only [List.length_drop, List.length_take]; rfl)) ?_; (with_reducible refine (steelyardkeep_LargeTree.calls k _ _ l0 false _ ?side1 ?side2 A5.out).mono ?_); (case side1 => repeat (first | exact (Kd.C_below HR0.out HB.out) | (with_reducible refine Kd.C_alloc ?_ _) | (with_reducible refine Kd.C_drewN ?_ _) | (with_reducible refine Kd.C_drew ?_))); (case side2 => exact HC0.out); rintro e w24 ⟨rfl, hb⟩; refine ⟨_, rfl, ?_⟩; have n0_ := Aside0.mk (below_step (by repeat (first | (with_reducible first | exact HB.out | apply below_alloc | apply pw_below_drewN | apply below_drew1) | exact HB.out)) hb); clear HB; have HB := n0_; clear n0_; (try clear hb); (try clear hb2); (try clear hk); (try clear hi)) | (go_at_call 22; (with_reducible refine (steelyardkeep_LargeTree.calls k _ _ l1 false _ ?side1 ?side2 A8.out).mono ?_); (case side1 => repeat (first | exact (Kd.C_below HR1.out HB.out) | (with_reducible refine Kd.C_alloc ?_ _) | (with_reducible refine Kd.C_drewN ?_ _) | (with_reducible refine Kd.C_drew ?_))); (case side2 => exact HC1.out); rintro e w25 ⟨rfl, hb⟩; have n0_ := Aside0.mk (below_step (by repeat (first | (with_reducible first | exact HB.out | apply below_alloc | apply pw_below_drewN | apply below_drew1) | exact HB.out)) hb); clear HB; have HB := n0_; clear n0_; (try clear hb); (try clear hb2); (try clear hk); (try clear hi)) | (go_at_call 34; (with_reducible refine (steelyardref14_Good.calls _ _ l0 false _ ?side1 ?side2 A12.out).mono ?_); (case side1 => repeat (first | exact (Kd.C_below HR0.out HB.out) | (with_reducible refine Kd.C_alloc ?_ _) | (with_reducible refine Kd.C_drewN ?_ _) | (with_reducible refine Kd.C_drew ?_))); (case side2 => exact HC0.out); rintro e w26 ⟨rfl, hb⟩; have n0_ := Aside0.mk (below_step (by repeat (first | (with_reducible first | exact HB.out | apply below_alloc | apply pw_below_drewN | apply below_drew1) | exact HB.out)) hb); clear HB; have HB := n0_; clear n0_; (try clear hb); (try clear hb2); (try clear hk); (try clear hi)))
          go_meet
          case rel => exact ⟨_, (true), (by first | rfl | (simp; done) | (simp [*]; done)), H', ⟨by first | omega | exact Nat.le_refl _⟩, ⟨by repeat (first | (with_reducible first | exact HB.out | apply below_alloc | apply pw_below_drewN | apply below_drew1) | exact HB.out)⟩⟩
  case rest =>
    clear HC4
    try clear c1
    try clear c2
    try clear p2
    try clear c6
    try clear p6
    try clear c8
    try clear c9
    try clear c13
    try clear c15
    try clear c22
    obtain ⟨kq, x36_3, rfl, HA, HJ3, HB⟩ := hcut
    cases kq with
    | zero => exact absurd HA.out (by simp [steelyardlaw14_TreeSizes.j0])
    | succ kj3 =>
      have H := HA.out
      clear HA
      simp only [steelyardlaw14_TreeSizes.j0] at H
      by_cases c27 : x36_3 = true
      · subst c27
        have H1 : ((steelyardlaw14_wakes.f).bind fun t337 => (some t337)) = some r := by rw [if_pos rfl] at H; exact H
        clear H
        have H := H1
        clear H1
        replace H := Option.bind_eq_some_iff.mp H
        obtain ⟨t337, A280, H⟩ := H
        replace H : (some t337) = some r := H
        have A28 := Aside0.mk A280
        clear A280
        obtain rfl := Option.some.inj H
        go_wp2_with (first | ((with_reducible refine gate_callee (f := 23) rfl ?_); refine goesL_ (some 37) rfl rfl Tryd.func23 (by kernel_rfl) rfl #[] rfl (by (try simp only [List.map_toArray, List.map_cons, List.map_nil]); first | done | rfl | (simp only [List.length_drop, List.length_take]; rfl)) ?_; (with_reducible refine (steelyardlaw14_wakes.calls  t337 _ A28.out ?sideG_).mono ?_); (case sideG_ => (first | (with_reducible exact HG_.out) | exact HG_.out.below (by repeat (first | (with_reducible first | exact HB.out | apply below_alloc | apply pw_below_drewN | apply below_drew1) | exact HB.out)))); rintro e w29 ⟨rfl, hb⟩; refine ⟨_, rfl, ?_⟩; have n0_ := Aside0.mk (below_step (by repeat (first | (with_reducible first | exact HB.out | apply below_alloc | apply pw_below_drewN | apply below_drew1) | exact HB.out)) hb); clear HB; have HB := n0_; clear n0_; (try clear hb); (try clear hb2); (try clear hk); (try clear hi)))
        go_ret
        exact ⟨by first | rfl | (simp [errW_none, errW_some] <;> rfl) | (simp [*, errW_none, errW_some] <;> rfl), by repeat (first | (with_reducible first | exact HB.out | apply below_alloc | apply pw_below_drewN | apply below_drew1) | exact HB.out)⟩
      · replace c27 := Bool.eq_false_iff.mpr c27
        subst c27
        have H1 : ((tree_Join.f kj3 4 l0 l1).bind fun bt338 => ((tree_Neg.f kj3 l0).bind fun bt342 => ((tree_Pow.f kj3 l1 (Int.tmod (wrap64 (a2)) 65)).bind fun bt346 => (if bt338.2 = true then (if bt342.2 = true then (if bt346.2 = true then (if (bt338.1.length : Int) = (wrap64 ((wrap64 ((l0.length : Int) + (l1.length : Int))) + 1)) then (if (bt342.1.length : Int) = (wrap64 ((l0.length : Int) + 1)) then (if (bt346.1.length : Int) = (wrap64 ((l1.length : Int) + 1)) then ((tree_Good.f kj3 bt338.1).bind fun t350 => (if t350 = true then ((tree_Good.f kj3 bt342.1).bind fun t351 => (if t351 = true then ((tree_Good.f kj3 bt346.1).bind fun t352 => (steelyardlaw14_TreeSizes.j1 kj3 l0 l1 bt338.1 bt342.1 bt346.1 (!t352))) else (steelyardlaw14_TreeSizes.j1 kj3 l0 l1 bt338.1 bt342.1 bt346.1 true))) else (steelyardlaw14_TreeSizes.j1 kj3 l0 l1 bt338.1 bt342.1 bt346.1 true))) else (steelyardlaw14_TreeSizes.j1 kj3 l0 l1 bt338.1 bt342.1 bt346.1 true)) else (steelyardlaw14_TreeSizes.j1 kj3 l0 l1 bt338.1 bt342.1 bt346.1 true)) else (steelyardlaw14_TreeSizes.j1 kj3 l0 l1 bt338.1 bt342.1 bt346.1 true)) else (steelyardlaw14_TreeSizes.j1 kj3 l0 l1 bt338.1 bt342.1 bt346.1 true)) else (steelyardlaw14_TreeSizes.j1 kj3 l0 l1 bt338.1 bt342.1 bt346.1 true)) else (steelyardlaw14_TreeSizes.j1 kj3 l0 l1 bt338.1 bt342.1 bt346.1 true))))) = some r := by rw [if_neg (show ¬ (false = true) by decide)] at H; exact H
        clear H
        have H := H1
        clear H1
        replace H := Option.bind_eq_some_iff.mp H
        obtain ⟨⟨t338, t339⟩, A300, H⟩ := H
        replace H : ((tree_Neg.f kj3 l0).bind fun bt342 => ((tree_Pow.f kj3 l1 (Int.tmod (wrap64 (a2)) 65)).bind fun bt346 => (if t339 = true then (if bt342.2 = true then (if bt346.2 = true then (if (t338.length : Int) = (wrap64 ((wrap64 ((l0.length : Int) + (l1.length : Int))) + 1)) then (if (bt342.1.length : Int) = (wrap64 ((l0.length : Int) + 1)) then (if (bt346.1.length : Int) = (wrap64 ((l1.length : Int) + 1)) then ((tree_Good.f kj3 t338).bind fun t350 => (if t350 = true then ((tree_Good.f kj3 bt342.1).bind fun t351 => (if t351 = true then ((tree_Good.f kj3 bt346.1).bind fun t352 => (steelyardlaw14_TreeSizes.j1 kj3 l0 l1 t338 bt342.1 bt346.1 (!t352))) else (steelyardlaw14_TreeSizes.j1 kj3 l0 l1 t338 bt342.1 bt346.1 true))) else (steelyardlaw14_TreeSizes.j1 kj3 l0 l1 t338 bt342.1 bt346.1 true))) else (steelyardlaw14_TreeSizes.j1 kj3 l0 l1 t338 bt342.1 bt346.1 true)) else (steelyardlaw14_TreeSizes.j1 kj3 l0 l1 t338 bt342.1 bt346.1 true)) else (steelyardlaw14_TreeSizes.j1 kj3 l0 l1 t338 bt342.1 bt346.1 true)) else (steelyardlaw14_TreeSizes.j1 kj3 l0 l1 t338 bt342.1 bt346.1 true)) else (steelyardlaw14_TreeSizes.j1 kj3 l0 l1 t338 bt342.1 bt346.1 true)) else (steelyardlaw14_TreeSizes.j1 kj3 l0 l1 t338 bt342.1 bt346.1 true)))) = some r := H
        have A30 := Aside0.mk A300
        clear A300
        replace H := Option.bind_eq_some_iff.mp H
        obtain ⟨⟨t342, t343⟩, A310, H⟩ := H
        replace H : ((tree_Pow.f kj3 l1 (Int.tmod (wrap64 (a2)) 65)).bind fun bt346 => (if t339 = true then (if t343 = true then (if bt346.2 = true then (if (t338.length : Int) = (wrap64 ((wrap64 ((l0.length : Int) + (l1.length : Int))) + 1)) then (if (t342.length : Int) = (wrap64 ((l0.length : Int) + 1)) then (if (bt346.1.length : Int) = (wrap64 ((l1.length : Int) + 1)) then ((tree_Good.f kj3 t338).bind fun t350 => (if t350 = true then ((tree_Good.f kj3 t342).bind fun t351 => (if t351 = true then ((tree_Good.f kj3 bt346.1).bind fun t352 => (steelyardlaw14_TreeSizes.j1 kj3 l0 l1 t338 t342 bt346.1 (!t352))) else (steelyardlaw14_TreeSizes.j1 kj3 l0 l1 t338 t342 bt346.1 true))) else (steelyardlaw14_TreeSizes.j1 kj3 l0 l1 t338 t342 bt346.1 true))) else (steelyardlaw14_TreeSizes.j1 kj3 l0 l1 t338 t342 bt346.1 true)) else (steelyardlaw14_TreeSizes.j1 kj3 l0 l1 t338 t342 bt346.1 true)) else (steelyardlaw14_TreeSizes.j1 kj3 l0 l1 t338 t342 bt346.1 true)) else (steelyardlaw14_TreeSizes.j1 kj3 l0 l1 t338 t342 bt346.1 true)) else (steelyardlaw14_TreeSizes.j1 kj3 l0 l1 t338 t342 bt346.1 true)) else (steelyardlaw14_TreeSizes.j1 kj3 l0 l1 t338 t342 bt346.1 true))) = some r := H
        have A31 := Aside0.mk A310
        clear A310
        replace H := Option.bind_eq_some_iff.mp H
        obtain ⟨⟨t346, t347⟩, A320, H⟩ := H
        replace H : (if t339 = true then (if t343 = true then (if t347 = true then (if (t338.length : Int) = (wrap64 ((wrap64 ((l0.length : Int) + (l1.length : Int))) + 1)) then (if (t342.length : Int) = (wrap64 ((l0.length : Int) + 1)) then (if (t346.length : Int) = (wrap64 ((l1.length : Int) + 1)) then ((tree_Good.f kj3 t338).bind fun t350 => (if t350 = true then ((tree_Good.f kj3 t342).bind fun t351 => (if t351 = true then ((tree_Good.f kj3 t346).bind fun t352 => (steelyardlaw14_TreeSizes.j1 kj3 l0 l1 t338 t342 t346 (!t352))) else (steelyardlaw14_TreeSizes.j1 kj3 l0 l1 t338 t342 t346 true))) else (steelyardlaw14_TreeSizes.j1 kj3 l0 l1 t338 t342 t346 true))) else (steelyardlaw14_TreeSizes.j1 kj3 l0 l1 t338 t342 t346 true)) else (steelyardlaw14_TreeSizes.j1 kj3 l0 l1 t338 t342 t346 true)) else (steelyardlaw14_TreeSizes.j1 kj3 l0 l1 t338 t342 t346 true)) else (steelyardlaw14_TreeSizes.j1 kj3 l0 l1 t338 t342 t346 true)) else (steelyardlaw14_TreeSizes.j1 kj3 l0 l1 t338 t342 t346 true)) else (steelyardlaw14_TreeSizes.j1 kj3 l0 l1 t338 t342 t346 true)) = some r := H
        have A32 := Aside0.mk A320
        clear A320
        have HC33 := Aside0.mk H
        clear H
        go_upto_region 6 with (first | ((with_reducible refine gate_callee (f := 27) rfl ?_); refine goesL_ (some 41) rfl rfl Tryd.func27 (by kernel_rfl) rfl #[.int .i64 4, .slice A0 l0.length c0, .slice A1 l1.length c1] rfl (by (try simp only [List.map_toArray, List.map_cons, List.map_nil]); first | done | rfl | (simp only [List.length_drop, List.length_take]; rfl)) ?_; (with_reducible refine (tree_Join.calls kj3 4 _ _ l0 _ _ l1 t338 t339 _ ?side1 ?side2 ?side3 ?side4 A30.out ?sideG_).mono ?_); (case sideG_ => (first | (with_reducible exact HG_.out) | exact HG_.out.below (by repeat (first | (with_reducible first | exact HB.out | apply below_alloc | apply pw_below_drewN | apply below_drew1) | exact HB.out)))); (case side1 => repeat (first | exact (Kd.C_below HR0.out HB.out) | (with_reducible refine Kd.C_alloc ?_ _) | (with_reducible refine Kd.C_drewN ?_ _) | (with_reducible refine Kd.C_drew ?_))); (case side2 => exact HC0.out); (case side3 => repeat (first | exact (Kd.C_below HR1.out HB.out) | (with_reducible refine Kd.C_alloc ?_ _) | (with_reducible refine Kd.C_drewN ?_ _) | (with_reducible refine Kd.C_drew ?_))); (case side4 => exact HC1.out); rintro e w34 ⟨v340, rfl, ho0, hb⟩; refine ⟨_, rfl, ?_⟩; have n0_ := Aside0.mk (Kd.R_lower ho0 (below_size (by repeat (first | (with_reducible first | exact HB.out | apply below_alloc | apply pw_below_drewN | apply below_drew1) | exact HB.out)))); have n1_ := Aside0.mk (below_step (by repeat (first | (with_reducible first | exact HB.out | apply below_alloc | apply pw_below_drewN | apply below_drew1) | exact HB.out)) hb); clear HB; have HO341 := n0_; have HB := n1_; clear n0_ n1_; (try clear hb); (try clear hb2); (try clear hk); (try clear hi); (try clear ho0)) | ((with_reducible refine gate_callee (f := 28) rfl ?_); refine goesL_ (some 46) rfl rfl Tryd.func28 (by kernel_rfl) rfl #[.slice A0 l0.length c0] rfl (by (try simp only [List.map_toArray, List.map_cons, List.map_nil]); first | done | rfl | (simp only [List.length_drop, List.length_take]; rfl)) ?_; (with_reducible refine (tree_Neg.calls kj3 _ _ l0 t342 t343 _ ?side1 ?side2 A31.out ?sideG_).mono ?_); (case sideG_ => (first | (with_reducible exact HG_.out) | exact HG_.out.below (by repeat (first | (with_reducible first | exact HB.out | apply below_alloc | apply pw_below_drewN | apply below_drew1) | exact HB.out)))); (case side1 => repeat (first | exact (Kd.C_below HR0.out HB.out) | (with_reducible refine Kd.C_alloc ?_ _) | (with_reducible refine Kd.C_drewN ?_ _) | (with_reducible refine Kd.C_drew ?_))); (case side2 => exact HC0.out); rintro e w35 ⟨v344, rfl, ho0, hb⟩; refine ⟨_, rfl, ?_⟩; have n0_ := Aside0.mk (Kd.R_elder' (by (with_reducible repeat (first | apply Kd.R_alloc | apply Kd.R_drewN | apply Kd.R_drew)); exact HO341.out) (Kd.R_base ho0) hb); have n1_ := Aside0.mk (Kd.R_lower (Kd.R_new' ho0 (Kd.R_lt (by (with_reducible repeat (first | apply Kd.R_alloc | apply Kd.R_drewN | apply Kd.R_drew)); exact HO341.out))) (below_size (by repeat (first | (with_reducible first | exact HB.out | apply below_alloc | apply pw_below_drewN | apply below_drew1) | exact HB.out)))); have n2_ := Aside0.mk (below_step (by repeat (first | (with_reducible first | exact HB.out | apply below_alloc | apply pw_below_drewN | apply below_drew1) | exact HB.out)) hb); clear HO341; clear HB; have HO341 := n0_; have HO345 := n1_; have HB := n2_; clear n0_ n1_ n2_; (try clear hb); (try clear hb2); (try clear hk); (try clear hi); (try clear ho0)) | ((with_reducible refine gate_callee (f := 29) rfl ?_); refine goesL_ (some 54) rfl rfl Tryd.func29 (by kernel_rfl) rfl #[.slice A1 l1.length c1, .int .i64 (Int.tmod (wrap64 (a2)) 65)] rfl (by (try simp only [List.map_toArray, List.map_cons, List.map_nil]); first | done | rfl | (simp only [List.length_drop, List.length_take]; rfl)) ?_; (with_reducible refine (tree_Pow.calls kj3 _ _ l1 (Int.tmod (wrap64 (a2)) 65) t346 t347 _ ?side1 ?side2 A32.out ?sideG_).mono ?_); (case sideG_ => (first | (with_reducible exact HG_.out) | exact HG_.out.below (by repeat (first | (with_reducible first | exact HB.out | apply below_alloc | apply pw_below_drewN | apply below_drew1) | exact HB.out)))); (case side1 => repeat (first | exact (Kd.C_below HR1.out HB.out) | (with_reducible refine Kd.C_alloc ?_ _) | (with_reducible refine Kd.C_drewN ?_ _) | (with_reducible refine Kd.C_drew ?_))); (case side2 => exact HC1.out); rintro e w36 ⟨v348, rfl, ho0, hb⟩; refine ⟨_, rfl, ?_⟩; have n0_ := Aside0.mk (Kd.R_elder' (by (with_reducible repeat (first | apply Kd.R_alloc | apply Kd.R_drewN | apply Kd.R_drew)); exact HO341.out) (Kd.R_base ho0) hb); have n1_ := Aside0.mk (Kd.R_elder' (by (with_reducible repeat (first | apply Kd.R_alloc | apply Kd.R_drewN | apply Kd.R_drew)); exact HO345.out) (Kd.R_base ho0) hb); have n2_ := Aside0.mk (Kd.R_lower (Kd.R_new' (Kd.R_new' ho0 (Kd.R_lt (by (with_reducible repeat (first | apply Kd.R_alloc | apply Kd.R_drewN | apply Kd.R_drew)); exact HO341.out))) (Kd.R_lt (by (with_reducible repeat (first | apply Kd.R_alloc | apply Kd.R_drewN | apply Kd.R_drew)); exact HO345.out))) (below_size (by repeat (first | (with_reducible first | exact HB.out | apply below_alloc | apply pw_below_drewN | apply below_drew1) | exact HB.out)))); have n3_ := Aside0.mk (below_step (by repeat (first | (with_reducible first | exact HB.out | apply below_alloc | apply pw_below_drewN | apply below_drew1) | exact HB.out)) hb); clear HO341; clear HO345; clear HB; have HO341 := n0_; have HO345 := n1_; have HO349 := n2_; have HB := n3_; clear n0_ n1_ n2_ n3_; (try clear hb); (try clear hb2); (try clear hk); (try clear hi); (try clear ho0)))
        (try simp only [Act.put, List.setIfInBounds_toArray, List.set_cons_zero, List.set_cons_succ])
        go_cut [108] (fun v108 wc => ∃ (kq : Nat) (x108_32 : Bool), v108 = .bool x108_32 ∧ Aside0 (steelyardlaw14_TreeSizes.j1 kq l0 l1 t338 t342 t346 x108_32 = some r) ∧ Aside0 (kq ≤ kj3) ∧ Aside0 (Kd.R k52 52 wc w.heap.size (fun k_ => some k_ ≠ (v344 : Value).ownBlock ∧ some k_ ≠ (v348 : Value).ownBlock) v340 t338) ∧ Aside0 (Kd.R k52 52 wc w.heap.size (fun k_ => some k_ ≠ (v340 : Value).ownBlock ∧ some k_ ≠ (v348 : Value).ownBlock) v344 t342) ∧ Aside0 (Kd.R k52 52 wc w.heap.size (fun k_ => some k_ ≠ (v340 : Value).ownBlock ∧ some k_ ≠ (v344 : Value).ownBlock) v348 t346) ∧ Aside0 (Below w.heap.size w wc))
        case first => as_aux_lemma =>
          have H := HC33.out
          clear HC33
          by_cases c37 : t339 = true
          · subst c37
            have H1 : (if t343 = true then (if t347 = true then (if (t338.length : Int) = (wrap64 ((wrap64 ((l0.length : Int) + (l1.length : Int))) + 1)) then (if (t342.length : Int) = (wrap64 ((l0.length : Int) + 1)) then (if (t346.length : Int) = (wrap64 ((l1.length : Int) + 1)) then ((tree_Good.f kj3 t338).bind fun t350 => (if t350 = true then ((tree_Good.f kj3 t342).bind fun t351 => (if t351 = true then ((tree_Good.f kj3 t346).bind fun t352 => (steelyardlaw14_TreeSizes.j1 kj3 l0 l1 t338 t342 t346 (!t352))) else (steelyardlaw14_TreeSizes.j1 kj3 l0 l1 t338 t342 t346 true))) else (steelyardlaw14_TreeSizes.j1 kj3 l0 l1 t338 t342 t346 true))) else (steelyardlaw14_TreeSizes.j1 kj3 l0 l1 t338 t342 t346 true)) else (steelyardlaw14_TreeSizes.j1 kj3 l0 l1 t338 t342 t346 true)) else (steelyardlaw14_TreeSizes.j1 kj3 l0 l1 t338 t342 t346 true)) else (steelyardlaw14_TreeSizes.j1 kj3 l0 l1 t338 t342 t346 true)) else (steelyardlaw14_TreeSizes.j1 kj3 l0 l1 t338 t342 t346 true)) = some r := by rw [if_pos rfl] at H; exact H
            clear H
            have H := H1
            clear H1
            by_cases c38 : t343 = true
            · subst c38
              have H1 : (if t347 = true then (if (t338.length : Int) = (wrap64 ((wrap64 ((l0.length : Int) + (l1.length : Int))) + 1)) then (if (t342.length : Int) = (wrap64 ((l0.length : Int) + 1)) then (if (t346.length : Int) = (wrap64 ((l1.length : Int) + 1)) then ((tree_Good.f kj3 t338).bind fun t350 => (if t350 = true then ((tree_Good.f kj3 t342).bind fun t351 => (if t351 = true then ((tree_Good.f kj3 t346).bind fun t352 => (steelyardlaw14_TreeSizes.j1 kj3 l0 l1 t338 t342 t346 (!t352))) else (steelyardlaw14_TreeSizes.j1 kj3 l0 l1 t338 t342 t346 true))) else (steelyardlaw14_TreeSizes.j1 kj3 l0 l1 t338 t342 t346 true))) else (steelyardlaw14_TreeSizes.j1 kj3 l0 l1 t338 t342 t346 true)) else (steelyardlaw14_TreeSizes.j1 kj3 l0 l1 t338 t342 t346 true)) else (steelyardlaw14_TreeSizes.j1 kj3 l0 l1 t338 t342 t346 true)) else (steelyardlaw14_TreeSizes.j1 kj3 l0 l1 t338 t342 t346 true)) = some r := by rw [if_pos rfl] at H; exact H
              clear H
              have H := H1
              clear H1
              by_cases c39 : t347 = true
              · subst c39
                have H1 : (if (t338.length : Int) = (wrap64 ((wrap64 ((l0.length : Int) + (l1.length : Int))) + 1)) then (if (t342.length : Int) = (wrap64 ((l0.length : Int) + 1)) then (if (t346.length : Int) = (wrap64 ((l1.length : Int) + 1)) then ((tree_Good.f kj3 t338).bind fun t350 => (if t350 = true then ((tree_Good.f kj3 t342).bind fun t351 => (if t351 = true then ((tree_Good.f kj3 t346).bind fun t352 => (steelyardlaw14_TreeSizes.j1 kj3 l0 l1 t338 t342 t346 (!t352))) else (steelyardlaw14_TreeSizes.j1 kj3 l0 l1 t338 t342 t346 true))) else (steelyardlaw14_TreeSizes.j1 kj3 l0 l1 t338 t342 t346 true))) else (steelyardlaw14_TreeSizes.j1 kj3 l0 l1 t338 t342 t346 true)) else (steelyardlaw14_TreeSizes.j1 kj3 l0 l1 t338 t342 t346 true)) else (steelyardlaw14_TreeSizes.j1 kj3 l0 l1 t338 t342 t346 true)) = some r := by rw [if_pos rfl] at H; exact H
                clear H
                have H := H1
                clear H1
                by_cases c40 : (t338.length : Int) = (wrap64 ((wrap64 ((l0.length : Int) + (l1.length : Int))) + 1))
                · rw [if_pos c40] at H
                  have c40b0 : ((t338.length : Int) == (wrap64 ((wrap64 ((l0.length : Int) + (l1.length : Int))) + 1))) = true := beq_iff_eq.mpr c40
                  have c40b1 : ((t338.length : Int) != (wrap64 ((wrap64 ((l0.length : Int) + (l1.length : Int))) + 1))) = false := bne_eq_false_iff_eq.mpr c40
                  clear c40
                  (first | rw [c40b0] | (simp only [i64_w, i32_w]; rw [c40b0]) | skip)
                  by_cases c41 : (t342.length : Int) = (wrap64 ((l0.length : Int) + 1))
                  · rw [if_pos c41] at H
                    have c41b0 : ((t342.length : Int) == (wrap64 ((l0.length : Int) + 1))) = true := beq_iff_eq.mpr c41
                    have c41b1 : ((t342.length : Int) != (wrap64 ((l0.length : Int) + 1))) = false := bne_eq_false_iff_eq.mpr c41
                    clear c41
                    by_cases c42 : (t346.length : Int) = (wrap64 ((l1.length : Int) + 1))
                    · rw [if_pos c42] at H
                      have c42b0 : ((t346.length : Int) == (wrap64 ((l1.length : Int) + 1))) = true := beq_iff_eq.mpr c42
                      have c42b1 : ((t346.length : Int) != (wrap64 ((l1.length : Int) + 1))) = false := bne_eq_false_iff_eq.mpr c42
                      clear c42
                      replace H := Option.bind_eq_some_iff.mp H
                      obtain ⟨t350, A430, H⟩ := H
                      replace H : (if t350 = true then ((tree_Good.f kj3 t342).bind fun t351 => (if t351 = true then ((tree_Good.f kj3 t346).bind fun t352 => (steelyardlaw14_TreeSizes.j1 kj3 l0 l1 t338 t342 t346 (!t352))) else (steelyardlaw14_TreeSizes.j1 kj3 l0 l1 t338 t342 t346 true))) else (steelyardlaw14_TreeSizes.j1 kj3 l0 l1 t338 t342 t346 true)) = some r := H
                      have A43 := Aside0.mk A430
                      clear A430
                      by_cases c44 : t350 = true
                      · subst c44
                        have H1 : ((tree_Good.f kj3 t342).bind fun t351 => (if t351 = true then ((tree_Good.f kj3 t346).bind fun t352 => (steelyardlaw14_TreeSizes.j1 kj3 l0 l1 t338 t342 t346 (!t352))) else (steelyardlaw14_TreeSizes.j1 kj3 l0 l1 t338 t342 t346 true))) = some r := by rw [if_pos rfl] at H; exact H
                        clear H
                        have H := H1
                        clear H1
                        replace H := Option.bind_eq_some_iff.mp H
                        obtain ⟨t351, A450, H⟩ := H
                        replace H : (if t351 = true then ((tree_Good.f kj3 t346).bind fun t352 => (steelyardlaw14_TreeSizes.j1 kj3 l0 l1 t338 t342 t346 (!t352))) else (steelyardlaw14_TreeSizes.j1 kj3 l0 l1 t338 t342 t346 true)) = some r := H
                        have A45 := Aside0.mk A450
                        clear A450
                        by_cases c46 : t351 = true
                        · subst c46
                          have H1 : ((tree_Good.f kj3 t346).bind fun t352 => (steelyardlaw14_TreeSizes.j1 kj3 l0 l1 t338 t342 t346 (!t352))) = some r := by rw [if_pos rfl] at H; exact H
                          clear H
                          have H := H1
                          clear H1
                          replace H := Option.bind_eq_some_iff.mp H
                          obtain ⟨t352, A470, H⟩ := H
                          replace H : (steelyardlaw14_TreeSizes.j1 kj3 l0 l1 t338 t342 t346 (!t352)) = some r := H
                          have A47 := Aside0.mk A470
                          clear A470
                          have H' := Aside0.mk H
                          clear H
                          obtain ⟨Ao48, co48, eo48⟩ := Kd.R_slice HO341.out
                          subst eo48
                          obtain ⟨Ao49, co49, eo49⟩ := Kd.R_slice HO345.out
                          subst eo49
                          obtain ⟨Ao50, co50, eo50⟩ := Kd.R_slice HO349.out
                          subst eo50
                          go_wp2_with (first | (go_at_call 36; (with_reducible refine (tree_Good.calls kj3 _ _ t338 true _ ?side1 ?side2 A43.out ?sideG_).mono ?_); (case sideG_ => (first | (with_reducible exact HG_.out) | exact HG_.out.below (by repeat (first | (with_reducible first | exact HB.out | apply below_alloc | apply pw_below_drewN | apply below_drew1) | exact HB.out)))); (case side1 => repeat (first | exact (Kd.R_reads' HO341.out).2.2 | (with_reducible refine Kd.C_alloc ?_ _) | (with_reducible refine Kd.C_drewN ?_ _) | (with_reducible refine Kd.C_drew ?_))); (case side2 => exact (Kd.R_reads' HO341.out).2.1); rintro e w51 ⟨rfl, hb⟩; have n0_ := Aside0.mk (Kd.R_below (by (with_reducible repeat (first | apply Kd.R_alloc | apply Kd.R_drewN | apply Kd.R_drew)); exact HO341.out) hb); have n1_ := Aside0.mk (Kd.R_below (by (with_reducible repeat (first | apply Kd.R_alloc | apply Kd.R_drewN | apply Kd.R_drew)); exact HO345.out) hb); have n2_ := Aside0.mk (Kd.R_below (by (with_reducible repeat (first | apply Kd.R_alloc | apply Kd.R_drewN | apply Kd.R_drew)); exact HO349.out) hb); have n3_ := Aside0.mk (below_step (by repeat (first | (with_reducible first | exact HB.out | apply below_alloc | apply pw_below_drewN | apply below_drew1) | exact HB.out)) hb); clear HO341; clear HO345; clear HO349; clear HB; have HO341 := n0_; have HO345 := n1_; have HO349 := n2_; have HB := n3_; clear n0_ n1_ n2_ n3_; (try clear hb); (try clear hb2); (try clear hk); (try clear hi)) | (go_at_call 36; (with_reducible refine (tree_Good.calls kj3 _ _ t342 true _ ?side1 ?side2 A45.out ?sideG_).mono ?_); (case sideG_ => (first | (with_reducible exact HG_.out) | exact HG_.out.below (by repeat (first | (with_reducible first | exact HB.out | apply below_alloc | apply pw_below_drewN | apply below_drew1) | exact HB.out)))); (case side1 => repeat (first | exact (Kd.R_reads' HO345.out).2.2 | (with_reducible refine Kd.C_alloc ?_ _) | (with_reducible refine Kd.C_drewN ?_ _) | (with_reducible refine Kd.C_drew ?_))); (case side2 => exact (Kd.R_reads' HO345.out).2.1); rintro e w52 ⟨rfl, hb⟩; have n0_ := Aside0.mk (Kd.R_below (by (with_reducible repeat (first | apply Kd.R_alloc | apply Kd.R_drewN | apply Kd.R_drew)); exact HO341.out) hb); have n1_ := Aside0.mk (Kd.R_below (by (with_reducible repeat (first | apply Kd.R_alloc | apply Kd.R_drewN | apply Kd.R_drew)); exact HO345.out) hb); have n2_ := Aside0.mk (Kd.R_below (by (with_reducible repeat (first | apply Kd.R_alloc | apply Kd.R_drewN | apply Kd.R_drew)); exact HO349.out) hb); have n3_ := Aside0.mk (below_step (by repeat (first | (with_reducible first | exact HB.out | apply below_alloc | apply pw_below_drewN | apply below_drew1) | exact HB.out)) hb); clear HO341; clear HO345; clear HO349; clear HB; have HO341 := n0_; have HO345 := n1_; have HO349 := n2_; have HB := n3_; clear n0_ n1_ n2_ n3_; (try clear hb); (try clear hb2); (try clear hk); (try clear hi)) | (go_at_call 36; (with_reducible refine (tree_Good.calls kj3 _ _ t346 t352 _ ?side1 ?side2 A47.out ?sideG_).mono ?_); (case sideG_ => (first | (with_reducible exact HG_.out) | exact HG_.out.below (by repeat (first | (with_reducible first | exact HB.out | apply below_alloc | apply pw_below_drewN | apply below_drew1) | exact HB.out)))); (case side1 => repeat (first | exact (Kd.R_reads' HO349.out).2.2 | (with_reducible refine Kd.C_alloc ?_ _) | (with_reducible refine Kd.C_drewN ?_ _) | (with_reducible refine Kd.C_drew ?_))); (case side2 => exact (Kd.R_reads' HO349.out).2.1); rintro e w53 ⟨rfl, hb⟩; have n0_ := Aside0.mk (Kd.R_below (by (with_reducible repeat (first | apply Kd.R_alloc | apply Kd.R_drewN | apply Kd.R_drew)); exact HO341.out) hb); have n1_ := Aside0.mk (Kd.R_below (by (with_reducible repeat (first | apply Kd.R_alloc | apply Kd.R_drewN | apply Kd.R_drew)); exact HO345.out) hb); have n2_ := Aside0.mk (Kd.R_below (by (with_reducible repeat (first | apply Kd.R_alloc | apply Kd.R_drewN | apply Kd.R_drew)); exact HO349.out) hb); have n3_ := Aside0.mk (below_step (by repeat (first | (with_reducible first | exact HB.out | apply below_alloc | apply pw_below_drewN | apply below_drew1) | exact HB.out)) hb); clear HO341; clear HO345; clear HO349; clear HB; have HO341 := n0_; have HO345 := n1_; have HO349 := n2_; have HB := n3_; clear n0_ n1_ n2_ n3_; (try clear hb); (try clear hb2); (try clear hk); (try clear hi)))
                          go_meet
                          case rel => exact ⟨_, (!t352), (by first | rfl | (simp; done) | (simp [*]; done)), H', ⟨by have := HJ3.out; first | omega | exact Nat.le_refl _⟩, ⟨by (with_reducible repeat (first | apply Kd.R_alloc | apply Kd.R_drewN | apply Kd.R_drew)); exact Kd.R_mono HO341.out (fun _ hk => ⟨hk.1.2, hk.2⟩)⟩, ⟨by (with_reducible repeat (first | apply Kd.R_alloc | apply Kd.R_drewN | apply Kd.R_drew)); exact Kd.R_mono HO345.out (fun _ hk => ⟨hk.1.2, hk.2⟩)⟩, ⟨by (with_reducible repeat (first | apply Kd.R_alloc | apply Kd.R_drewN | apply Kd.R_drew)); exact Kd.R_mono HO349.out (fun _ hk => ⟨hk.1.2, hk.2⟩)⟩, ⟨by repeat (first | (with_reducible first | exact HB.out | apply below_alloc | apply pw_below_drewN | apply below_drew1) | exact HB.out)⟩⟩
                        · replace c46 := Bool.eq_false_iff.mpr c46
                          subst c46
                          have H1 : (steelyardlaw14_TreeSizes.j1 kj3 l0 l1 t338 t342 t346 true) = some r := by rw [if_neg (show ¬ (false = true) by decide)] at H; exact H
                          clear H
                          have H := H1
                          clear H1
                          have H' := Aside0.mk H
                          clear H
                          obtain ⟨Ao54, co54, eo54⟩ := Kd.R_slice HO341.out
                          subst eo54
                          obtain ⟨Ao55, co55, eo55⟩ := Kd.R_slice HO345.out
                          subst eo55
                          obtain ⟨Ao56, co56, eo56⟩ := Kd.R_slice HO349.out
                          subst eo56
                          go_wp2_with (first | (go_at_call 36; (with_reducible refine (tree_Good.calls kj3 _ _ t338 true _ ?side1 ?side2 A43.out ?sideG_).mono ?_); (case sideG_ => (first | (with_reducible exact HG_.out) | exact HG_.out.below (by repeat (first | (with_reducible first | exact HB.out | apply below_alloc | apply pw_below_drewN | apply below_drew1) | exact HB.out)))); (case side1 => repeat (first | exact (Kd.R_reads' HO341.out).2.2 | (with_reducible refine Kd.C_alloc ?_ _) | (with_reducible refine Kd.C_drewN ?_ _) | (with_reducible refine Kd.C_drew ?_))); (case side2 => exact (Kd.R_reads' HO341.out).2.1); rintro e w57 ⟨rfl, hb⟩; have n0_ := Aside0.mk (Kd.R_below (by (with_reducible repeat (first | apply Kd.R_alloc | apply Kd.R_drewN | apply Kd.R_drew)); exact HO341.out) hb); have n1_ := Aside0.mk (Kd.R_below (by (with_reducible repeat (first | apply Kd.R_alloc | apply Kd.R_drewN | apply Kd.R_drew)); exact HO345.out) hb); have n2_ := Aside0.mk (Kd.R_below (by (with_reducible repeat (first | apply Kd.R_alloc | apply Kd.R_drewN | apply Kd.R_drew)); exact HO349.out) hb); have n3_ := Aside0.mk (below_step (by repeat (first | (with_reducible first | exact HB.out | apply below_alloc | apply pw_below_drewN | apply below_drew1) | exact HB.out)) hb); clear HO341; clear HO345; clear HO349; clear HB; have HO341 := n0_; have HO345 := n1_; have HO349 := n2_; have HB := n3_; clear n0_ n1_ n2_ n3_; (try clear hb); (try clear hb2); (try clear hk); (try clear hi)) | (go_at_call 36; (with_reducible refine (tree_Good.calls kj3 _ _ t342 false _ ?side1 ?side2 A45.out ?sideG_).mono ?_); (case sideG_ => (first | (with_reducible exact HG_.out) | exact HG_.out.below (by repeat (first | (with_reducible first | exact HB.out | apply below_alloc | apply pw_below_drewN | apply below_drew1) | exact HB.out)))); (case side1 => repeat (first | exact (Kd.R_reads' HO345.out).2.2 | (with_reducible refine Kd.C_alloc ?_ _) | (with_reducible refine Kd.C_drewN ?_ _) | (with_reducible refine Kd.C_drew ?_))); (case side2 => exact (Kd.R_reads' HO345.out).2.1); rintro e w58 ⟨rfl, hb⟩; have n0_ := Aside0.mk (Kd.R_below (by (with_reducible repeat (first | apply Kd.R_alloc | apply Kd.R_drewN | apply Kd.R_drew)); exact HO341.out) hb); have n1_ := Aside0.mk (Kd.R_below (by (with_reducible repeat (first | apply Kd.R_alloc | apply Kd.R_drewN | apply Kd.R_drew)); exact HO345.out) hb); have n2_ := Aside0.mk (Kd.R_below (by (with_reducible repeat (first | apply Kd.R_alloc | apply Kd.R_drewN | apply Kd.R_drew)); exact HO349.out) hb); have n3_ := Aside0.mk (below_step (by repeat (first | (with_reducible first | exact HB.out | apply below_alloc | apply pw_below_drewN | apply below_drew1) | exact HB.out)) hb); clear HO341; clear HO345; clear HO349; clear HB; have HO341 := n0_; have HO345 := n1_; have HO349 := n2_; have HB := n3_; clear n0_ n1_ n2_ n3_; (try clear hb); (try clear hb2); (try clear hk); (try clear hi)))
                          go_meet
                          case rel => exact ⟨_, (true), (by first | rfl | (simp; done) | (simp [*]; done)), H', ⟨by have := HJ3.out; first | omega | exact Nat.le_refl _⟩, ⟨by (with_reducible repeat (first | apply Kd.R_alloc | apply Kd.R_drewN | apply Kd.R_drew)); exact Kd.R_mono HO341.out (fun _ hk => ⟨hk.1.2, hk.2⟩)⟩, ⟨by (with_reducible repeat (first | apply Kd.R_alloc | apply Kd.R_drewN | apply Kd.R_drew)); exact Kd.R_mono HO345.out (fun _ hk => ⟨hk.1.2, hk.2⟩)⟩, ⟨by (with_reducible repeat (first | apply Kd.R_alloc | apply Kd.R_drewN | apply Kd.R_drew)); exact Kd.R_mono HO349.out (fun _ hk => ⟨hk.1.2, hk.2⟩)⟩, ⟨by repeat (first | (with_reducible first | exact HB.out | apply below_alloc | apply pw_below_drewN | apply below_drew1) | exact HB.out)⟩⟩
                      · replace c44 := Bool.eq_false_iff.mpr c44
                        subst c44
                        have H1 : (steelyardlaw14_TreeSizes.j1 kj3 l0 l1 t338 t342 t346 true) = some r := by rw [if_neg (show ¬ (false = true) by decide)] at H; exact H
                        clear H
                        have H := H1
                        clear H1
                        have H' := Aside0.mk H
                        clear H
                        obtain ⟨Ao59, co59, eo59⟩ := Kd.R_slice HO341.out
                        subst eo59
                        obtain ⟨Ao60, co60, eo60⟩ := Kd.R_slice HO345.out
                        subst eo60
                        obtain ⟨Ao61, co61, eo61⟩ := Kd.R_slice HO349.out
                        subst eo61
                        go_wp2_with (first | (go_at_call 36; (with_reducible refine (tree_Good.calls kj3 _ _ t338 false _ ?side1 ?side2 A43.out ?sideG_).mono ?_); (case sideG_ => (first | (with_reducible exact HG_.out) | exact HG_.out.below (by repeat (first | (with_reducible first | exact HB.out | apply below_alloc | apply pw_below_drewN | apply below_drew1) | exact HB.out)))); (case side1 => repeat (first | exact (Kd.R_reads' HO341.out).2.2 | (with_reducible refine Kd.C_alloc ?_ _) | (with_reducible refine Kd.C_drewN ?_ _) | (with_reducible refine Kd.C_drew ?_))); (case side2 => exact (Kd.R_reads' HO341.out).2.1); rintro e w62 ⟨rfl, hb⟩; have n0_ := Aside0.mk (Kd.R_below (by (with_reducible repeat (first | apply Kd.R_alloc | apply Kd.R_drewN | apply Kd.R_drew)); exact HO341.out) hb); have n1_ := Aside0.mk (Kd.R_below (by (with_reducible repeat (first | apply Kd.R_alloc | apply Kd.R_drewN | apply Kd.R_drew)); exact HO345.out) hb); have n2_ := Aside0.mk (Kd.R_below (by (with_reducible repeat (first | apply Kd.R_alloc | apply Kd.R_drewN | apply Kd.R_drew)); exact HO349.out) hb); have n3_ := Aside0.mk (below_step (by repeat (first | (with_reducible first | exact HB.out | apply below_alloc | apply pw_below_drewN | apply below_drew1) | exact HB.out)) hb); clear HO341; clear HO345; clear HO349; clear HB; have HO341 := n0_; have HO345 := n1_; have HO349 := n2_; have HB := n3_; clear n0_ n1_ n2_ n3_; (try clear hb); (try clear hb2); (try clear hk); (try clear hi)))
                        go_meet
                        case rel => exact ⟨_, (true), (by first | rfl | (simp; done) | (simp [*]; done)), H', ⟨by have := HJ3.out; first | omega | exact Nat.le_refl _⟩, ⟨by (with_reducible repeat (first | apply Kd.R_alloc | apply Kd.R_drewN | apply Kd.R_drew)); exact Kd.R_mono HO341.out (fun _ hk => ⟨hk.1.2, hk.2⟩)⟩, ⟨by (with_reducible repeat (first | apply Kd.R_alloc | apply Kd.R_drewN | apply Kd.R_drew)); exact Kd.R_mono HO345.out (fun _ hk => ⟨hk.1.2, hk.2⟩)⟩, ⟨by (with_reducible repeat (first | apply Kd.R_alloc | apply Kd.R_drewN | apply Kd.R_drew)); exact Kd.R_mono HO349.out (fun _ hk => ⟨hk.1.2, hk.2⟩)⟩, ⟨by repeat (first | (with_reducible first | exact HB.out | apply below_alloc | apply pw_below_drewN | apply below_drew1) | exact HB.out)⟩⟩
                    · rw [if_neg c42] at H
                      have c42b0 : ((t346.length : Int) == (wrap64 ((l1.length : Int) + 1))) = false := beq_eq_false_iff_ne.mpr c42
                      have c42b1 : ((t346.length : Int) != (wrap64 ((l1.length : Int) + 1))) = true := bne_iff_ne.mpr c42
                      have H' := Aside0.mk H
                      clear H
                      obtain ⟨Ao63, co63, eo63⟩ := Kd.R_slice HO341.out
                      subst eo63
                      obtain ⟨Ao64, co64, eo64⟩ := Kd.R_slice HO345.out
                      subst eo64
                      obtain ⟨Ao65, co65, eo65⟩ := Kd.R_slice HO349.out
                      subst eo65
                      go_wp2
                      go_meet
                      case rel => exact ⟨_, (true), (by first | rfl | (simp; done) | (simp [*]; done)), H', ⟨by have := HJ3.out; first | omega | exact Nat.le_refl _⟩, ⟨by (with_reducible repeat (first | apply Kd.R_alloc | apply Kd.R_drewN | apply Kd.R_drew)); exact Kd.R_mono HO341.out (fun _ hk => ⟨hk.1.2, hk.2⟩)⟩, ⟨by (with_reducible repeat (first | apply Kd.R_alloc | apply Kd.R_drewN | apply Kd.R_drew)); exact Kd.R_mono HO345.out (fun _ hk => ⟨hk.1.2, hk.2⟩)⟩, ⟨by (with_reducible repeat (first | apply Kd.R_alloc | apply Kd.R_drewN | apply Kd.R_drew)); exact Kd.R_mono HO349.out (fun _ hk => ⟨hk.1.2, hk.2⟩)⟩, ⟨by repeat (first | (with_reducible first | exact HB.out | apply below_alloc | apply pw_below_drewN | apply below_drew1) | exact HB.out)⟩⟩
                  · rw [if_neg c41] at H
                    have c41b0 : ((t342.length : Int) == (wrap64 ((l0.length : Int) + 1))) = false := beq_eq_false_iff_ne.mpr c41
                    have c41b1 : ((t342.length : Int) != (wrap64 ((l0.length : Int) + 1))) = true := bne_iff_ne.mpr c41
                    have H' := Aside0.mk H
                    clear H
                    obtain ⟨Ao66, co66, eo66⟩ := Kd.R_slice HO341.out
                    subst eo66
                    obtain ⟨Ao67, co67, eo67⟩ := Kd.R_slice HO345.out
                    subst eo67
                    go_wp2
                    go_meet
                    case rel => exact ⟨_, (true), (by first | rfl | (simp; done) | (simp [*]; done)), H', ⟨by have := HJ3.out; first | omega | exact Nat.le_refl _⟩, ⟨by (with_reducible repeat (first | apply Kd.R_alloc | apply Kd.R_drewN | apply Kd.R_drew)); exact Kd.R_mono HO341.out (fun _ hk => ⟨hk.1.2, hk.2⟩)⟩, ⟨by (with_reducible repeat (first | apply Kd.R_alloc | apply Kd.R_drewN | apply Kd.R_drew)); exact Kd.R_mono HO345.out (fun _ hk => ⟨hk.1.2, hk.2⟩)⟩, ⟨by (with_reducible repeat (first | apply Kd.R_alloc | apply Kd.R_drewN | apply Kd.R_drew)); exact Kd.R_mono HO349.out (fun _ hk => ⟨hk.1.2, hk.2⟩)⟩, ⟨by repeat (first | (with_reducible first | exact HB.out | apply below_alloc | apply pw_below_drewN | apply below_drew1) | exact HB.out)⟩⟩
                · rw [if_neg c40] at H
                  have c40b0 : ((t338.length : Int) == (wrap64 ((wrap64 ((l0.length : Int) + (l1.length : Int))) + 1))) = false := beq_eq_false_iff_ne.mpr c40
                  have c40b1 : ((t338.length : Int) != (wrap64 ((wrap64 ((l0.length : Int) + (l1.length : Int))) + 1))) = true := bne_iff_ne.mpr c40
                  (first | rw [c40b0] | (simp only [i64_w, i32_w]; rw [c40b0]) | skip)
                  have H' := Aside0.mk H
                  clear H
                  obtain ⟨Ao68, co68, eo68⟩ := Kd.R_slice HO341.out
                  subst eo68
                  go_wp2
                  go_meet
                  case rel => exact ⟨_, (true), (by first | rfl | (simp; done) | (simp [*]; done)), H', ⟨by have := HJ3.out; first | omega | exact Nat.le_refl _⟩, ⟨by (with_reducible repeat (first | apply Kd.R_alloc | apply Kd.R_drewN | apply Kd.R_drew)); exact Kd.R_mono HO341.out (fun _ hk => ⟨hk.1.2, hk.2⟩)⟩, ⟨by (with_reducible repeat (first | apply Kd.R_alloc | apply Kd.R_drewN | apply Kd.R_drew)); exact Kd.R_mono HO345.out (fun _ hk => ⟨hk.1.2, hk.2⟩)⟩, ⟨by (with_reducible repeat (first | apply Kd.R_alloc | apply Kd.R_drewN | apply Kd.R_drew)); exact Kd.R_mono HO349.out (fun _ hk => ⟨hk.1.2, hk.2⟩)⟩, ⟨by repeat (first | (with_reducible first | exact HB.out | apply below_alloc | apply pw_below_drewN | apply below_drew1) | exact HB.out)⟩⟩
              · replace c39 := Bool.eq_false_iff.mpr c39
                subst c39
                have H1 : (steelyardlaw14_TreeSizes.j1 kj3 l0 l1 t338 t342 t346 true) = some r := by rw [if_neg (show ¬ (false = true) by decide)] at H; exact H
                clear H
                have H := H1
                clear H1
                have H' := Aside0.mk H
                clear H
                go_wp2
                go_meet
                case rel => exact ⟨_, (true), (by first | rfl | (simp; done) | (simp [*]; done)), H', ⟨by have := HJ3.out; first | omega | exact Nat.le_refl _⟩, ⟨by (with_reducible repeat (first | apply Kd.R_alloc | apply Kd.R_drewN | apply Kd.R_drew)); exact Kd.R_mono HO341.out (fun _ hk => ⟨hk.1.2, hk.2⟩)⟩, ⟨by (with_reducible repeat (first | apply Kd.R_alloc | apply Kd.R_drewN | apply Kd.R_drew)); exact Kd.R_mono HO345.out (fun _ hk => ⟨hk.1.2, hk.2⟩)⟩, ⟨by (with_reducible repeat (first | apply Kd.R_alloc | apply Kd.R_drewN | apply Kd.R_drew)); exact Kd.R_mono HO349.out (fun _ hk => ⟨hk.1.2, hk.2⟩)⟩, ⟨by repeat (first | (with_reducible first | exact HB.out | apply below_alloc | apply pw_below_drewN | apply below_drew1) | exact HB.out)⟩⟩
            · replace c38 := Bool.eq_false_iff.mpr c38
              subst c38
              have H1 : (steelyardlaw14_TreeSizes.j1 kj3 l0 l1 t338 t342 t346 true) = some r := by rw [if_neg (show ¬ (false = true) by decide)] at H; exact H
              clear H
              have H := H1
              clear H1
              have H' := Aside0.mk H
              clear H
              go_wp2
              go_meet
              case rel => exact ⟨_, (true), (by first | rfl | (simp; done) | (simp [*]; done)), H', ⟨by have := HJ3.out; first | omega | exact Nat.le_refl _⟩, ⟨by (with_reducible repeat (first | apply Kd.R_alloc | apply Kd.R_drewN | apply Kd.R_drew)); exact Kd.R_mono HO341.out (fun _ hk => ⟨hk.1.2, hk.2⟩)⟩, ⟨by (with_reducible repeat (first | apply Kd.R_alloc | apply Kd.R_drewN | apply Kd.R_drew)); exact Kd.R_mono HO345.out (fun _ hk => ⟨hk.1.2, hk.2⟩)⟩, ⟨by (with_reducible repeat (first | apply Kd.R_alloc | apply Kd.R_drewN | apply Kd.R_drew)); exact Kd.R_mono HO349.out (fun _ hk => ⟨hk.1.2, hk.2⟩)⟩, ⟨by repeat (first | (with_reducible first | exact HB.out | apply below_alloc | apply pw_below_drewN | apply below_drew1) | exact HB.out)⟩⟩
          · replace c37 := Bool.eq_false_iff.mpr c37
            subst c37
            have H1 : (steelyardlaw14_TreeSizes.j1 kj3 l0 l1 t338 t342 t346 true) = some r := by rw [if_neg (show ¬ (false = true) by decide)] at H; exact H
            clear H
            have H := H1
            clear H1
            have H' := Aside0.mk H
            clear H
            go_wp2
            go_meet
            case rel => exact ⟨_, (true), (by first | rfl | (simp; done) | (simp [*]; done)), H', ⟨by have := HJ3.out; first | omega | exact Nat.le_refl _⟩, ⟨by (with_reducible repeat (first | apply Kd.R_alloc | apply Kd.R_drewN | apply Kd.R_drew)); exact Kd.R_mono HO341.out (fun _ hk => ⟨hk.1.2, hk.2⟩)⟩, ⟨by (with_reducible repeat (first | apply Kd.R_alloc | apply Kd.R_drewN | apply Kd.R_drew)); exact Kd.R_mono HO345.out (fun _ hk => ⟨hk.1.2, hk.2⟩)⟩, ⟨by (with_reducible repeat (first | apply Kd.R_alloc | apply Kd.R_drewN | apply Kd.R_drew)); exact Kd.R_mono HO349.out (fun _ hk => ⟨hk.1.2, hk.2⟩)⟩, ⟨by repeat (first | (with_reducible first | exact HB.out | apply below_alloc | apply pw_below_drewN | apply below_drew1) | exact HB.out)⟩⟩
        case rest =>
          clear HC33
          try clear c1
          try clear c2
          try clear p2
          try clear c3
          try clear c4
          try clear c6
          try clear p6
          try clear c8
          try clear c9
          try clear c13
          try clear c15
          try clear c22
          try clear c23
          try clear c27
          try clear c28
          try clear c29
          try clear c37
          try clear c38
          try clear c39
          try clear c40
          try clear c40b0
          try clear c40b1
          try clear c41
          try clear c41b0
          try clear c41b1
          try clear c42
          try clear c42b0
          try clear c42b1
          try clear c44
          try clear c46
          try clear p64
          try clear p2
          try clear p6
          obtain ⟨kq, x108_32, rfl, HA, HJ32, HO_7, HO_9, HO_11, HB⟩ := hcut
          cases kq with
          | zero => exact absurd HA.out (by simp [steelyardlaw14_TreeSizes.j1])
          | succ kj32 =>
            have H := HA.out
            clear HA
            simp only [steelyardlaw14_TreeSizes.j1] at H
            by_cases c69 : x108_32 = true
            · subst c69
              have H1 : (some false) = some r := by rw [if_pos rfl] at H; exact H
              clear H
              have H := H1
              clear H1
              obtain rfl := Option.some.inj H
              go_wp2
              go_ret
              exact ⟨by first | rfl | (simp [errW_none, errW_some] <;> rfl) | (simp [*, errW_none, errW_some] <;> rfl), by repeat (first | (with_reducible first | exact HB.out | apply below_alloc | apply pw_below_drewN | apply below_drew1) | exact HB.out)⟩
            · replace c69 := Bool.eq_false_iff.mpr c69
              subst c69
              have H1 : (if 0 ≤ (l0.length : Int) then (if (l0.length : Int) ≤ (t338.length : Int) then ((steelyardkeep_Tree.f kj32 (t338.take ((l0.length : Int) : Int).toNat) l0).bind fun t357 => (if t357 = true then (if (l0.length : Int) ≤ (t342.length : Int) then ((steelyardkeep_Tree.f kj32 (t342.take ((l0.length : Int) : Int).toNat) l0).bind fun t362 => (if t362 = true then (if 0 ≤ (l1.length : Int) then (if (l1.length : Int) ≤ (t346.length : Int) then ((steelyardkeep_Tree.f kj32 (t346.take ((l1.length : Int) : Int).toNat) l1).bind fun t367 => (if t367 = true then (if 0 ≤ (wrap64 ((t338.length : Int) - 1)) then (if (wrap64 ((t338.length : Int) - 1)) ≤ (t338.length : Int) then ((tree_Good.f kj32 (t338.take ((wrap64 ((t338.length : Int) - 1)) : Int).toNat)).bind fun t372 => (steelyardlaw14_TreeSizes.j2 kj32 l0 l1 t338 t342 t346 t372)) else (none)) else (none)) else (steelyardlaw14_TreeSizes.j2 kj32 l0 l1 t338 t342 t346 true))) else (none)) else (none)) else (steelyardlaw14_TreeSizes.j2 kj32 l0 l1 t338 t342 t346 true))) else (none)) else (steelyardlaw14_TreeSizes.j2 kj32 l0 l1 t338 t342 t346 true))) else (none)) else (none)) = some r := by rw [if_neg (show ¬ (false = true) by decide)] at H; exact H
              clear H
              have H := H1
              clear H1
              have HC70 := Aside0.mk H
              clear H
              go_upto_region 8 with (fail)
              go_cut [141] (fun v141 wc => ∃ (kq : Nat) (x141_69 : Bool), v141 = .bool x141_69 ∧ Aside0 (steelyardlaw14_TreeSizes.j2 kq l0 l1 t338 t342 t346 x141_69 = some r) ∧ Aside0 (kq ≤ kj32) ∧ Aside0 (Kd.R k52 52 wc w.heap.size (fun k_ => some k_ ≠ (v344 : Value).ownBlock ∧ some k_ ≠ (v348 : Value).ownBlock) v340 t338) ∧ Aside0 (Kd.R k52 52 wc w.heap.size (fun k_ => some k_ ≠ (v340 : Value).ownBlock ∧ some k_ ≠ (v348 : Value).ownBlock) v344 t342) ∧ Aside0 (Kd.R k52 52 wc w.heap.size (fun k_ => some k_ ≠ (v340 : Value).ownBlock ∧ some k_ ≠ (v344 : Value).ownBlock) v348 t346) ∧ Aside0 (Below w.heap.size w wc))
              case first => as_aux_lemma =>
                have H := HC70.out
                clear HC70
                by_cases c71 : 0 ≤ (l0.length : Int)
                · rw [if_pos c71] at H
                  have c71b0 := eq_true c71
                  have c71b1 : decide (0 ≤ (l0.length : Int)) = true := decide_eq_true c71
                  clear c71
                  by_cases c72 : (l0.length : Int) ≤ (t338.length : Int)
                  · rw [if_pos c72] at H
                    have c72b0 := eq_true c72
                    have c72b1 : decide ((l0.length : Int) ≤ (t338.length : Int)) = true := decide_eq_true c72
                    clear c72
                    obtain ⟨y353, hy353⟩ : ∃ y_ : List (S52), y_ = (t338.take ((l0.length : Int) : Int).toNat) := ⟨_, rfl⟩
                    replace H : ((steelyardkeep_Tree.f kj32 y353 l0).bind fun t357 => (if t357 = true then (if (l0.length : Int) ≤ (t342.length : Int) then ((steelyardkeep_Tree.f kj32 (t342.take ((l0.length : Int) : Int).toNat) l0).bind fun t362 => (if t362 = true then (if 0 ≤ (l1.length : Int) then (if (l1.length : Int) ≤ (t346.length : Int) then ((steelyardkeep_Tree.f kj32 (t346.take ((l1.length : Int) : Int).toNat) l1).bind fun t367 => (if t367 = true then (if 0 ≤ (wrap64 ((t338.length : Int) - 1)) then (if (wrap64 ((t338.length : Int) - 1)) ≤ (t338.length : Int) then ((tree_Good.f kj32 (t338.take ((wrap64 ((t338.length : Int) - 1)) : Int).toNat)).bind fun t372 => (steelyardlaw14_TreeSizes.j2 kj32 l0 l1 t338 t342 t346 t372)) else (none)) else (none)) else (steelyardlaw14_TreeSizes.j2 kj32 l0 l1 t338 t342 t346 true))) else (none)) else (none)) else (steelyardlaw14_TreeSizes.j2 kj32 l0 l1 t338 t342 t346 true))) else (none)) else (steelyardlaw14_TreeSizes.j2 kj32 l0 l1 t338 t342 t346 true))) = some r := by first | (rw [hy353]; with_reducible exact H) | (have H2_ := (Option.bind_some _ _).symm.trans H; rw [hy353]; with_reducible exact H2_) | (have H2_ := (Option.bind_some _ _).symm.trans H; with_reducible exact H2_) | with_reducible exact H | (rw [hy353]; exact H) | exact H
                    have Ny353 := Aside0.mk hy353
                    clear hy353
                    replace H := Option.bind_eq_some_iff.mp H
                    obtain ⟨t357, A730, H⟩ := H
                    replace H : (if t357 = true then (if (l0.length : Int) ≤ (t342.length : Int) then ((steelyardkeep_Tree.f kj32 (t342.take ((l0.length : Int) : Int).toNat) l0).bind fun t362 => (if t362 = true then (if 0 ≤ (l1.length : Int) then (if (l1.length : Int) ≤ (t346.length : Int) then ((steelyardkeep_Tree.f kj32 (t346.take ((l1.length : Int) : Int).toNat) l1).bind fun t367 => (if t367 = true then (if 0 ≤ (wrap64 ((t338.length : Int) - 1)) then (if (wrap64 ((t338.length : Int) - 1)) ≤ (t338.length : Int) then ((tree_Good.f kj32 (t338.take ((wrap64 ((t338.length : Int) - 1)) : Int).toNat)).bind fun t372 => (steelyardlaw14_TreeSizes.j2 kj32 l0 l1 t338 t342 t346 t372)) else (none)) else (none)) else (steelyardlaw14_TreeSizes.j2 kj32 l0 l1 t338 t342 t346 true))) else (none)) else (none)) else (steelyardlaw14_TreeSizes.j2 kj32 l0 l1 t338 t342 t346 true))) else (none)) else (steelyardlaw14_TreeSizes.j2 kj32 l0 l1 t338 t342 t346 true)) = some r := H
                    have A73 := Aside0.mk A730
                    clear A730
                    by_cases c74 : t357 = true
                    · subst c74
                      have H1 : (if (l0.length : Int) ≤ (t342.length : Int) then ((steelyardkeep_Tree.f kj32 (t342.take ((l0.length : Int) : Int).toNat) l0).bind fun t362 => (if t362 = true then (if 0 ≤ (l1.length : Int) then (if (l1.length : Int) ≤ (t346.length : Int) then ((steelyardkeep_Tree.f kj32 (t346.take ((l1.length : Int) : Int).toNat) l1).bind fun t367 => (if t367 = true then (if 0 ≤ (wrap64 ((t338.length : Int) - 1)) then (if (wrap64 ((t338.length : Int) - 1)) ≤ (t338.length : Int) then ((tree_Good.f kj32 (t338.take ((wrap64 ((t338.length : Int) - 1)) : Int).toNat)).bind fun t372 => (steelyardlaw14_TreeSizes.j2 kj32 l0 l1 t338 t342 t346 t372)) else (none)) else (none)) else (steelyardlaw14_TreeSizes.j2 kj32 l0 l1 t338 t342 t346 true))) else (none)) else (none)) else (steelyardlaw14_TreeSizes.j2 kj32 l0 l1 t338 t342 t346 true))) else (none)) = some r := by rw [if_pos rfl] at H; exact H
                      clear H
                      have H := H1
                      clear H1
                      have c75b0 := eq_true (of_decide_eq_true (by first | (with_reducible assumption) | assumption) : 0 ≤ (l0.length : Int))
                      by_cases c76 : (l0.length : Int) ≤ (t342.length : Int)
                      · rw [if_pos c76] at H
                        have c76b0 := eq_true c76
                        have c76b1 : decide ((l0.length : Int) ≤ (t342.length : Int)) = true := decide_eq_true c76
                        clear c76
                        obtain ⟨y358, hy358⟩ : ∃ y_ : List (S52), y_ = (t342.take ((l0.length : Int) : Int).toNat) := ⟨_, rfl⟩
                        replace H : ((steelyardkeep_Tree.f kj32 y358 l0).bind fun t362 => (if t362 = true then (if 0 ≤ (l1.length : Int) then (if (l1.length : Int) ≤ (t346.length : Int) then ((steelyardkeep_Tree.f kj32 (t346.take ((l1.length : Int) : Int).toNat) l1).bind fun t367 => (if t367 = true then (if 0 ≤ (wrap64 ((t338.length : Int) - 1)) then (if (wrap64 ((t338.length : Int) - 1)) ≤ (t338.length : Int) then ((tree_Good.f kj32 (t338.take ((wrap64 ((t338.length : Int) - 1)) : Int).toNat)).bind fun t372 => (steelyardlaw14_TreeSizes.j2 kj32 l0 l1 t338 t342 t346 t372)) else (none)) else (none)) else (steelyardlaw14_TreeSizes.j2 kj32 l0 l1 t338 t342 t346 true))) else (none)) else (none)) else (steelyardlaw14_TreeSizes.j2 kj32 l0 l1 t338 t342 t346 true))) = some r := by first | (rw [hy358]; with_reducible exact H) | (have H2_ := (Option.bind_some _ _).symm.trans H; rw [hy358]; with_reducible exact H2_) | (have H2_ := (Option.bind_some _ _).symm.trans H; with_reducible exact H2_) | with_reducible exact H | (rw [hy358]; exact H) | exact H
                        have Ny358 := Aside0.mk hy358
                        clear hy358
                        replace H := Option.bind_eq_some_iff.mp H
                        obtain ⟨t362, A770, H⟩ := H
                        replace H : (if t362 = true then (if 0 ≤ (l1.length : Int) then (if (l1.length : Int) ≤ (t346.length : Int) then ((steelyardkeep_Tree.f kj32 (t346.take ((l1.length : Int) : Int).toNat) l1).bind fun t367 => (if t367 = true then (if 0 ≤ (wrap64 ((t338.length : Int) - 1)) then (if (wrap64 ((t338.length : Int) - 1)) ≤ (t338.length : Int) then ((tree_Good.f kj32 (t338.take ((wrap64 ((t338.length : Int) - 1)) : Int).toNat)).bind fun t372 => (steelyardlaw14_TreeSizes.j2 kj32 l0 l1 t338 t342 t346 t372)) else (none)) else (none)) else (steelyardlaw14_TreeSizes.j2 kj32 l0 l1 t338 t342 t346 true))) else (none)) else (none)) else (steelyardlaw14_TreeSizes.j2 kj32 l0 l1 t338 t342 t346 true)) = some r := H
                        have A77 := Aside0.mk A770
                        clear A770
                        by_cases c78 : t362 = true
                        · subst c78
                          have H1 : (if 0 ≤ (l1.length : Int) then (if (l1.length : Int) ≤ (t346.length : Int) then ((steelyardkeep_Tree.f kj32 (t346.take ((l1.length : Int) : Int).toNat) l1).bind fun t367 => (if t367 = true then (if 0 ≤ (wrap64 ((t338.length : Int) - 1)) then (if (wrap64 ((t338.length : Int) - 1)) ≤ (t338.length : Int) then ((tree_Good.f kj32 (t338.take ((wrap64 ((t338.length : Int) - 1)) : Int).toNat)).bind fun t372 => (steelyardlaw14_TreeSizes.j2 kj32 l0 l1 t338 t342 t346 t372)) else (none)) else (none)) else (steelyardlaw14_TreeSizes.j2 kj32 l0 l1 t338 t342 t346 true))) else (none)) else (none)) = some r := by rw [if_pos rfl] at H; exact H
                          clear H
                          have H := H1
                          clear H1
                          by_cases c79 : 0 ≤ (l1.length : Int)
                          · rw [if_pos c79] at H
                            have c79b0 := eq_true c79
                            have c79b1 : decide (0 ≤ (l1.length : Int)) = true := decide_eq_true c79
                            clear c79
                            by_cases c80 : (l1.length : Int) ≤ (t346.length : Int)
                            · rw [if_pos c80] at H
                              have c80b0 := eq_true c80
                              have c80b1 : decide ((l1.length : Int) ≤ (t346.length : Int)) = true := decide_eq_true c80
                              clear c80
                              obtain ⟨y363, hy363⟩ : ∃ y_ : List (S52), y_ = (t346.take ((l1.length : Int) : Int).toNat) := ⟨_, rfl⟩
                              replace H : ((steelyardkeep_Tree.f kj32 y363 l1).bind fun t367 => (if t367 = true then (if 0 ≤ (wrap64 ((t338.length : Int) - 1)) then (if (wrap64 ((t338.length : Int) - 1)) ≤ (t338.length : Int) then ((tree_Good.f kj32 (t338.take ((wrap64 ((t338.length : Int) - 1)) : Int).toNat)).bind fun t372 => (steelyardlaw14_TreeSizes.j2 kj32 l0 l1 t338 t342 t346 t372)) else (none)) else (none)) else (steelyardlaw14_TreeSizes.j2 kj32 l0 l1 t338 t342 t346 true))) = some r := by first | (rw [hy363]; with_reducible exact H) | (have H2_ := (Option.bind_some _ _).symm.trans H; rw [hy363]; with_reducible exact H2_) | (have H2_ := (Option.bind_some _ _).symm.trans H; with_reducible exact H2_) | with_reducible exact H | (rw [hy363]; exact H) | exact H
                              have Ny363 := Aside0.mk hy363
                              clear hy363
                              replace H := Option.bind_eq_some_iff.mp H
                              obtain ⟨t367, A810, H⟩ := H
                              replace H : (if t367 = true then (if 0 ≤ (wrap64 ((t338.length : Int) - 1)) then (if (wrap64 ((t338.length : Int) - 1)) ≤ (t338.length : Int) then ((tree_Good.f kj32 (t338.take ((wrap64 ((t338.length : Int) - 1)) : Int).toNat)).bind fun t372 => (steelyardlaw14_TreeSizes.j2 kj32 l0 l1 t338 t342 t346 t372)) else (none)) else (none)) else (steelyardlaw14_TreeSizes.j2 kj32 l0 l1 t338 t342 t346 true)) = some r := H
                              have A81 := Aside0.mk A810
                              clear A810
                              by_cases c82 : t367 = true
                              · subst c82
                                have H1 : (if 0 ≤ (wrap64 ((t338.length : Int) - 1)) then (if (wrap64 ((t338.length : Int) - 1)) ≤ (t338.length : Int) then ((tree_Good.f kj32 (t338.take ((wrap64 ((t338.length : Int) - 1)) : Int).toNat)).bind fun t372 => (steelyardlaw14_TreeSizes.j2 kj32 l0 l1 t338 t342 t346 t372)) else (none)) else (none)) = some r := by rw [if_pos rfl] at H; exact H
                                clear H
                                have H := H1
                                clear H1
                                obtain ⟨ji83, hji83⟩ : ∃ j_ : Int, (wrap64 ((t338.length : Int) - 1)) = j_ := ⟨_, rfl⟩
                                replace H : (if 0 ≤ (ji83) then (if (ji83) ≤ (t338.length : Int) then ((tree_Good.f kj32 (t338.take ((ji83) : Int).toNat)).bind fun t372 => (steelyardlaw14_TreeSizes.j2 kj32 l0 l1 t338 t342 t346 t372)) else (none)) else (none)) = some r := by first | (rw [hji83] at H; exact H) | (simp only [hji83] at H ⊢; exact H)
                                (try rw [hji83] at A73)
                                (try rw [hji83] at A77)
                                (try rw [hji83] at A81)
                                have hji83w : (IntKind.i64.wrap ((t338.length : Int) - 1)) = ji83 := (i64_w _).trans hji83
                                by_cases c84 : 0 ≤ (ji83)
                                · rw [if_pos c84] at H
                                  have c84b0 := eq_true c84
                                  have c84b1 : decide (0 ≤ (ji83)) = true := decide_eq_true c84
                                  clear c84
                                  by_cases c85 : (ji83) ≤ (t338.length : Int)
                                  · rw [if_pos c85] at H
                                    have c85b0 := eq_true c85
                                    have c85b1 : decide ((ji83) ≤ (t338.length : Int)) = true := decide_eq_true c85
                                    clear c85
                                    obtain ⟨y368, hy368⟩ : ∃ y_ : List (S52), y_ = (t338.take ((ji83) : Int).toNat) := ⟨_, rfl⟩
                                    replace H : ((tree_Good.f kj32 y368).bind fun t372 => (steelyardlaw14_TreeSizes.j2 kj32 l0 l1 t338 t342 t346 t372)) = some r := by first | (rw [hy368]; with_reducible exact H) | (have H2_ := (Option.bind_some _ _).symm.trans H; rw [hy368]; with_reducible exact H2_) | (have H2_ := (Option.bind_some _ _).symm.trans H; with_reducible exact H2_) | with_reducible exact H | (rw [hy368]; exact H) | exact H
                                    have Ny368 := Aside0.mk hy368
                                    clear hy368
                                    replace H := Option.bind_eq_some_iff.mp H
                                    obtain ⟨t372, A860, H⟩ := H
                                    replace H : (steelyardlaw14_TreeSizes.j2 kj32 l0 l1 t338 t342 t346 t372) = some r := H
                                    have A86 := Aside0.mk A860
                                    clear A860
                                    have H' := Aside0.mk H
                                    clear H
                                    obtain ⟨Ao88, co88, eo88⟩ := Kd.R_slice HO_7.out
                                    subst eo88
                                    have q87 : ((l0.length : Int) : Int) ≤ ((t338.length : Int) : Int) := of_decide_eq_true (by first | (with_reducible assumption) | assumption)
                                    obtain ⟨i087, hi087, _, hsz87, _⟩ := info_parts info52
                                    have hroom87 : t338.length ≤ co88 := (Kd.R_reads' HO_7.out).2.1
                                    have hC87 : Kd.C k52 _ Ao88 t338.length t338 := (Kd.R_reads' HO_7.out).2.2
                                    have hcut87 := cut_to (P := Tryd.prog) 39 52 .i64 Tryd.underlying39 hi087 Ao88 t338.length co88 (l0.length : Int) (of_decide_eq_true (by first | (with_reducible assumption) | assumption)) q87 hroom87
                                    have hr87 := Kd.C_take (m := ((l0.length : Int) : Int).toNat) hC87 (by omega)
                                    have hy87 : y353.length = ((l0.length : Int) : Int).toNat := (by rw [Ny353.out, List.length_take]; omega)
                                    rw [← Ny353.out] at hr87
                                    rw [← hy87] at hcut87
                                    have HR356 := Aside0.mk hr87
                                    have HC356 := Aside0.mk (show y353.length ≤ co88 from by omega)
                                    clear hr87 hC87 hroom87 hi087 hsz87
                                    have KY87 := Aside0.mk hy87
                                    clear hy87
                                    have KL87 := Aside0.mk (show ((l0.length : Int) : Int).toNat ≤ t338.length from by omega)
                                    replace q87 := eq_true q87
                                    go_wp2_with (first | ((with_reducible refine gate_callee (f := 33) rfl ?_); refine goesL_ (some 114) rfl rfl Tryd.func33 (by kernel_rfl) rfl #[.slice Ao88 y353.length co88, .slice A0 l0.length c0] rfl (by (try simp only [List.map_toArray, List.map_cons, List.map_nil]); first | done | rfl | (simp only [List.length_drop, List.length_take]; rfl)) ?_; (with_reducible refine (steelyardkeep_Tree.calls kj32 _ _ y353 _ _ l0 true _ ?side1 ?side2 ?side3 ?side4 A73.out).mono ?_); (case side1 => repeat (first | exact (by repeat (first | (with_reducible exact HR356.out) | (with_reducible refine Kd.C_alloc ?_ _) | (with_reducible refine Kd.C_drewN ?_ _) | (with_reducible refine Kd.C_drew ?_) | exact HR356.out)) | (with_reducible refine Kd.C_alloc ?_ _) | (with_reducible refine Kd.C_drewN ?_ _) | (with_reducible refine Kd.C_drew ?_))); (case side2 => exact HC356.out); (case side3 => repeat (first | exact (Kd.C_below HR0.out HB.out) | (with_reducible refine Kd.C_alloc ?_ _) | (with_reducible refine Kd.C_drewN ?_ _) | (with_reducible refine Kd.C_drew ?_))); (case side4 => exact HC0.out); rintro e w' ⟨rfl, ⟨nd, rfl⟩⟩; refine ⟨_, rfl, ?_⟩; obtain ⟨Ao90, co90, eo90⟩ := Kd.R_slice HO_9.out; subst eo90; have q89 : ((l0.length : Int) : Int) ≤ ((t342.length : Int) : Int) := of_decide_eq_true (by first | (with_reducible assumption) | assumption); obtain ⟨i089, hi089, _, hsz89, _⟩ := info_parts info52; have hroom89 : t342.length ≤ co90 := (Kd.R_reads' HO_9.out).2.1; have hC89 : Kd.C k52 _ Ao90 t342.length t342 := (Kd.R_reads' HO_9.out).2.2; have hcut89 := cut_to (P := Tryd.prog) 39 52 .i64 Tryd.underlying39 hi089 Ao90 t342.length co90 (l0.length : Int) (of_decide_eq_true (by first | (with_reducible assumption) | assumption)) q89 hroom89; have hr89 := Kd.C_take (m := ((l0.length : Int) : Int).toNat) hC89 (by omega); have hy89 : y358.length = ((l0.length : Int) : Int).toNat := (by rw [Ny358.out, List.length_take]; omega); rw [← Ny358.out] at hr89; rw [← hy89] at hcut89; have HR361 := Aside0.mk hr89; have HC361 := Aside0.mk (show y358.length ≤ co90 from by omega); clear hr89 hC89 hroom89 hi089 hsz89; have KY89 := Aside0.mk hy89; clear hy89; have KL89 := Aside0.mk (show ((l0.length : Int) : Int).toNat ≤ t342.length from by omega); replace q89 := eq_true q89) | (go_at_call 33; (with_reducible refine (steelyardkeep_Tree.calls kj32 _ _ y358 _ _ l0 true _ ?side1 ?side2 ?side3 ?side4 A77.out).mono ?_); (case side1 => repeat (first | exact (by repeat (first | (with_reducible exact HR361.out) | (with_reducible refine Kd.C_alloc ?_ _) | (with_reducible refine Kd.C_drewN ?_ _) | (with_reducible refine Kd.C_drew ?_) | exact HR361.out)) | (with_reducible refine Kd.C_alloc ?_ _) | (with_reducible refine Kd.C_drewN ?_ _) | (with_reducible refine Kd.C_drew ?_))); (case side2 => exact HC361.out); (case side3 => repeat (first | exact (Kd.C_below HR0.out (by repeat (first | (with_reducible first | exact HB.out | apply below_alloc | apply pw_below_drewN | apply below_drew1) | exact HB.out))) | (with_reducible refine Kd.C_alloc ?_ _) | (with_reducible refine Kd.C_drewN ?_ _) | (with_reducible refine Kd.C_drew ?_))); (case side4 => exact HC0.out); rintro e w' ⟨rfl, ⟨nd, rfl⟩⟩; obtain ⟨Ao92, co92, eo92⟩ := Kd.R_slice HO_11.out; subst eo92; have q91 : ((l1.length : Int) : Int) ≤ ((t346.length : Int) : Int) := of_decide_eq_true (by first | (with_reducible assumption) | assumption); obtain ⟨i091, hi091, _, hsz91, _⟩ := info_parts info52; have hroom91 : t346.length ≤ co92 := (Kd.R_reads' HO_11.out).2.1; have hC91 : Kd.C k52 _ Ao92 t346.length t346 := (Kd.R_reads' HO_11.out).2.2; have hcut91 := cut_to (P := Tryd.prog) 39 52 .i64 Tryd.underlying39 hi091 Ao92 t346.length co92 (l1.length : Int) (of_decide_eq_true (by first | (with_reducible assumption) | assumption)) q91 hroom91; have hr91 := Kd.C_take (m := ((l1.length : Int) : Int).toNat) hC91 (by omega); have hy91 : y363.length = ((l1.length : Int) : Int).toNat := (by rw [Ny363.out, List.length_take]; omega); rw [← Ny363.out] at hr91; rw [← hy91] at hcut91; have HR366 := Aside0.mk hr91; have HC366 := Aside0.mk (show y363.length ≤ co92 from by omega); clear hr91 hC91 hroom91 hi091 hsz91; have KY91 := Aside0.mk hy91; clear hy91; have KL91 := Aside0.mk (show ((l1.length : Int) : Int).toNat ≤ t346.length from by omega); replace q91 := eq_true q91) | (go_at_call 33; (with_reducible refine (steelyardkeep_Tree.calls kj32 _ _ y363 _ _ l1 true _ ?side1 ?side2 ?side3 ?side4 A81.out).mono ?_); (case side1 => repeat (first | exact (by repeat (first | (with_reducible exact HR366.out) | (with_reducible refine Kd.C_alloc ?_ _) | (with_reducible refine Kd.C_drewN ?_ _) | (with_reducible refine Kd.C_drew ?_) | exact HR366.out)) | (with_reducible refine Kd.C_alloc ?_ _) | (with_reducible refine Kd.C_drewN ?_ _) | (with_reducible refine Kd.C_drew ?_))); (case side2 => exact HC366.out); (case side3 => repeat (first | exact (Kd.C_below HR1.out (by repeat (first | (with_reducible first | exact HB.out | apply below_alloc | apply pw_below_drewN | apply below_drew1) | exact HB.out))) | (with_reducible refine Kd.C_alloc ?_ _) | (with_reducible refine Kd.C_drewN ?_ _) | (with_reducible refine Kd.C_drew ?_))); (case side4 => exact HC1.out); rintro e w' ⟨rfl, ⟨nd, rfl⟩⟩; have q93 : ((ji83) : Int) ≤ ((t338.length : Int) : Int) := of_decide_eq_true (by first | (with_reducible assumption) | assumption); obtain ⟨i093, hi093, _, hsz93, _⟩ := info_parts info52; have hroom93 : t338.length ≤ co88 := (Kd.R_reads' HO_7.out).2.1; have hC93 : Kd.C k52 _ Ao88 t338.length t338 := (Kd.R_reads' HO_7.out).2.2; have hcut93 := cut_to (P := Tryd.prog) 39 52 .i64 Tryd.underlying39 hi093 Ao88 t338.length co88 (ji83) (of_decide_eq_true (by first | (with_reducible assumption) | assumption)) q93 hroom93; have hr93 := Kd.C_take (m := ((ji83) : Int).toNat) hC93 (by omega); have hy93 : y368.length = ((ji83) : Int).toNat := (by rw [Ny368.out, List.length_take]; omega); rw [← Ny368.out] at hr93; rw [← hy93] at hcut93; have HR371 := Aside0.mk hr93; have HC371 := Aside0.mk (show y368.length ≤ co88 from by omega); clear hr93 hC93 hroom93 hi093 hsz93; have KY93 := Aside0.mk hy93; clear hy93; have KL93 := Aside0.mk (show ((ji83) : Int).toNat ≤ t338.length from by omega); replace q93 := eq_true q93) | (go_at_call 36; (with_reducible refine (tree_Good.calls kj32 _ _ y368 t372 _ ?side1 ?side2 A86.out ?sideG_).mono ?_); (case sideG_ => (first | (with_reducible exact HG_.out) | exact HG_.out.below (by repeat (first | (with_reducible first | exact HB.out | apply below_alloc | apply pw_below_drewN | apply below_drew1) | exact HB.out)))); (case side1 => repeat (first | exact (by repeat (first | (with_reducible exact HR371.out) | (with_reducible refine Kd.C_alloc ?_ _) | (with_reducible refine Kd.C_drewN ?_ _) | (with_reducible refine Kd.C_drew ?_) | exact HR371.out)) | (with_reducible refine Kd.C_alloc ?_ _) | (with_reducible refine Kd.C_drewN ?_ _) | (with_reducible refine Kd.C_drew ?_))); (case side2 => exact HC371.out); rintro e w94 ⟨rfl, hb⟩; have n0_ := Aside0.mk (Kd.R_below (by (with_reducible repeat (first | apply Kd.R_alloc | apply Kd.R_drewN | apply Kd.R_drew)); exact HO_7.out) hb); have n1_ := Aside0.mk (Kd.R_below (by (with_reducible repeat (first | apply Kd.R_alloc | apply Kd.R_drewN | apply Kd.R_drew)); exact HO_9.out) hb); have n2_ := Aside0.mk (Kd.R_below (by (with_reducible repeat (first | apply Kd.R_alloc | apply Kd.R_drewN | apply Kd.R_drew)); exact HO_11.out) hb); have n3_ := Aside0.mk (Kd.C_below (by repeat (first | (with_reducible exact HR356.out) | (with_reducible refine Kd.C_alloc ?_ _) | (with_reducible refine Kd.C_drewN ?_ _) | (with_reducible refine Kd.C_drew ?_) | exact HR356.out)) hb); have n4_ := Aside0.mk (Kd.C_below (by repeat (first | (with_reducible exact HR361.out) | (with_reducible refine Kd.C_alloc ?_ _) | (with_reducible refine Kd.C_drewN ?_ _) | (with_reducible refine Kd.C_drew ?_) | exact HR361.out)) hb); have n5_ := Aside0.mk (Kd.C_below (by repeat (first | (with_reducible exact HR366.out) | (with_reducible refine Kd.C_alloc ?_ _) | (with_reducible refine Kd.C_drewN ?_ _) | (with_reducible refine Kd.C_drew ?_) | exact HR366.out)) hb); have n6_ := Aside0.mk (Kd.C_below (by repeat (first | (with_reducible exact HR371.out) | (with_reducible refine Kd.C_alloc ?_ _) | (with_reducible refine Kd.C_drewN ?_ _) | (with_reducible refine Kd.C_drew ?_) | exact HR371.out)) hb); have n7_ := Aside0.mk (below_step (by repeat (first | (with_reducible first | exact HB.out | apply below_alloc | apply pw_below_drewN | apply below_drew1) | exact HB.out)) hb); clear HO_7; clear HO_9; clear HO_11; clear HR356; clear HR361; clear HR366; clear HR371; clear HB; have HO_7 := n0_; have HO_9 := n1_; have HO_11 := n2_; have HR356 := n3_; have HR361 := n4_; have HR366 := n5_; have HR371 := n6_; have HB := n7_; clear n0_ n1_ n2_ n3_ n4_ n5_ n6_ n7_; (try clear hb); (try clear hb2); (try clear hk); (try clear hi)))
                                    go_meet
                                    case rel => exact ⟨_, (t372), (by first | rfl | (simp; done) | (simp [*]; done)), H', ⟨by have := HJ3.out; have := HJ32.out; first | omega | exact Nat.le_refl _⟩, ⟨by (with_reducible repeat (first | apply Kd.R_alloc | apply Kd.R_drewN | apply Kd.R_drew)); exact HO_7.out⟩, ⟨by (with_reducible repeat (first | apply Kd.R_alloc | apply Kd.R_drewN | apply Kd.R_drew)); exact HO_9.out⟩, ⟨by (with_reducible repeat (first | apply Kd.R_alloc | apply Kd.R_drewN | apply Kd.R_drew)); exact HO_11.out⟩, ⟨by repeat (first | (with_reducible first | exact HB.out | apply below_alloc | apply pw_below_drewN | apply below_drew1) | exact HB.out)⟩⟩
                                  · rw [if_neg c85] at H
                                    exact absurd H (by simp)
                                · rw [if_neg c84] at H
                                  exact absurd H (by simp)
                              · replace c82 := Bool.eq_false_iff.mpr c82
                                subst c82
                                have H1 : (steelyardlaw14_TreeSizes.j2 kj32 l0 l1 t338 t342 t346 true) = some r := by rw [if_neg (show ¬ (false = true) by decide)] at H; exact H
                                clear H
                                have H := H1
                                clear H1
                                have H' := Aside0.mk H
                                clear H
                                obtain ⟨Ao96, co96, eo96⟩ := Kd.R_slice HO_7.out
                                subst eo96
                                have q95 : ((l0.length : Int) : Int) ≤ ((t338.length : Int) : Int) := of_decide_eq_true (by first | (with_reducible assumption) | assumption)
                                obtain ⟨i095, hi095, _, hsz95, _⟩ := info_parts info52
                                have hroom95 : t338.length ≤ co96 := (Kd.R_reads' HO_7.out).2.1
                                have hC95 : Kd.C k52 _ Ao96 t338.length t338 := (Kd.R_reads' HO_7.out).2.2
                                have hcut95 := cut_to (P := Tryd.prog) 39 52 .i64 Tryd.underlying39 hi095 Ao96 t338.length co96 (l0.length : Int) (of_decide_eq_true (by first | (with_reducible assumption) | assumption)) q95 hroom95
                                have hr95 := Kd.C_take (m := ((l0.length : Int) : Int).toNat) hC95 (by omega)
                                have hy95 : y353.length = ((l0.length : Int) : Int).toNat := (by rw [Ny353.out, List.length_take]; omega)
                                rw [← Ny353.out] at hr95
                                rw [← hy95] at hcut95
                                have HR356 := Aside0.mk hr95
                                have HC356 := Aside0.mk (show y353.length ≤ co96 from by omega)
                                clear hr95 hC95 hroom95 hi095 hsz95
                                have KY95 := Aside0.mk hy95
                                clear hy95
                                have KL95 := Aside0.mk (show ((l0.length : Int) : Int).toNat ≤ t338.length from by omega)
                                replace q95 := eq_true q95
                                go_wp2_with (first | ((with_reducible refine gate_callee (f := 33) rfl ?_); refine goesL_ (some 114) rfl rfl Tryd.func33 (by kernel_rfl) rfl #[.slice Ao96 y353.length co96, .slice A0 l0.length c0] rfl (by (try simp only [List.map_toArray, List.map_cons, List.map_nil]); first | done | rfl | (simp only [List.length_drop, List.length_take]; rfl)) ?_; (with_reducible refine (steelyardkeep_Tree.calls kj32 _ _ y353 _ _ l0 true _ ?side1 ?side2 ?side3 ?side4 A73.out).mono ?_); (case side1 => repeat (first | exact (by repeat (first | (with_reducible exact HR356.out) | (with_reducible refine Kd.C_alloc ?_ _) | (with_reducible refine Kd.C_drewN ?_ _) | (with_reducible refine Kd.C_drew ?_) | exact HR356.out)) | (with_reducible refine Kd.C_alloc ?_ _) | (with_reducible refine Kd.C_drewN ?_ _) | (with_reducible refine Kd.C_drew ?_))); (case side2 => exact HC356.out); (case side3 => repeat (first | exact (Kd.C_below HR0.out HB.out) | (with_reducible refine Kd.C_alloc ?_ _) | (with_reducible refine Kd.C_drewN ?_ _) | (with_reducible refine Kd.C_drew ?_))); (case side4 => exact HC0.out); rintro e w' ⟨rfl, ⟨nd, rfl⟩⟩; refine ⟨_, rfl, ?_⟩; obtain ⟨Ao98, co98, eo98⟩ := Kd.R_slice HO_9.out; subst eo98; have q97 : ((l0.length : Int) : Int) ≤ ((t342.length : Int) : Int) := of_decide_eq_true (by first | (with_reducible assumption) | assumption); obtain ⟨i097, hi097, _, hsz97, _⟩ := info_parts info52; have hroom97 : t342.length ≤ co98 := (Kd.R_reads' HO_9.out).2.1; have hC97 : Kd.C k52 _ Ao98 t342.length t342 := (Kd.R_reads' HO_9.out).2.2; have hcut97 := cut_to (P := Tryd.prog) 39 52 .i64 Tryd.underlying39 hi097 Ao98 t342.length co98 (l0.length : Int) (of_decide_eq_true (by first | (with_reducible assumption) | assumption)) q97 hroom97; have hr97 := Kd.C_take (m := ((l0.length : Int) : Int).toNat) hC97 (by omega); have hy97 : y358.length = ((l0.length : Int) : Int).toNat := (by rw [Ny358.out, List.length_take]; omega); rw [← Ny358.out] at hr97; rw [← hy97] at hcut97; have HR361 := Aside0.mk hr97; have HC361 := Aside0.mk (show y358.length ≤ co98 from by omega); clear hr97 hC97 hroom97 hi097 hsz97; have KY97 := Aside0.mk hy97; clear hy97; have KL97 := Aside0.mk (show ((l0.length : Int) : Int).toNat ≤ t342.length from by omega); replace q97 := eq_true q97) | (go_at_call 33; (with_reducible refine (steelyardkeep_Tree.calls kj32 _ _ y358 _ _ l0 true _ ?side1 ?side2 ?side3 ?side4 A77.out).mono ?_); (case side1 => repeat (first | exact (by repeat (first | (with_reducible exact HR361.out) | (with_reducible refine Kd.C_alloc ?_ _) | (with_reducible refine Kd.C_drewN ?_ _) | (with_reducible refine Kd.C_drew ?_) | exact HR361.out)) | (with_reducible refine Kd.C_alloc ?_ _) | (with_reducible refine Kd.C_drewN ?_ _) | (with_reducible refine Kd.C_drew ?_))); (case side2 => exact HC361.out); (case side3 => repeat (first | exact (Kd.C_below HR0.out (by repeat (first | (with_reducible first | exact HB.out | apply below_alloc | apply pw_below_drewN | apply below_drew1) | exact HB.out))) | (with_reducible refine Kd.C_alloc ?_ _) | (with_reducible refine Kd.C_drewN ?_ _) | (with_reducible refine Kd.C_drew ?_))); (case side4 => exact HC0.out); rintro e w' ⟨rfl, ⟨nd, rfl⟩⟩; obtain ⟨Ao100, co100, eo100⟩ := Kd.R_slice HO_11.out; subst eo100; have q99 : ((l1.length : Int) : Int) ≤ ((t346.length : Int) : Int) := of_decide_eq_true (by first | (with_reducible assumption) | assumption); obtain ⟨i099, hi099, _, hsz99, _⟩ := info_parts info52; have hroom99 : t346.length ≤ co100 := (Kd.R_reads' HO_11.out).2.1; have hC99 : Kd.C k52 _ Ao100 t346.length t346 := (Kd.R_reads' HO_11.out).2.2; have hcut99 := cut_to (P := Tryd.prog) 39 52 .i64 Tryd.underlying39 hi099 Ao100 t346.length co100 (l1.length : Int) (of_decide_eq_true (by first | (with_reducible assumption) | assumption)) q99 hroom99; have hr99 := Kd.C_take (m := ((l1.length : Int) : Int).toNat) hC99 (by omega); have hy99 : y363.length = ((l1.length : Int) : Int).toNat := (by rw [Ny363.out, List.length_take]; omega); rw [← Ny363.out] at hr99; rw [← hy99] at hcut99; have HR366 := Aside0.mk hr99; have HC366 := Aside0.mk (show y363.length ≤ co100 from by omega); clear hr99 hC99 hroom99 hi099 hsz99; have KY99 := Aside0.mk hy99; clear hy99; have KL99 := Aside0.mk (show ((l1.length : Int) : Int).toNat ≤ t346.length from by omega); replace q99 := eq_true q99) | (go_at_call 33; (with_reducible refine (steelyardkeep_Tree.calls kj32 _ _ y363 _ _ l1 false _ ?side1 ?side2 ?side3 ?side4 A81.out).mono ?_); (case side1 => repeat (first | exact (by repeat (first | (with_reducible exact HR366.out) | (with_reducible refine Kd.C_alloc ?_ _) | (with_reducible refine Kd.C_drewN ?_ _) | (with_reducible refine Kd.C_drew ?_) | exact HR366.out)) | (with_reducible refine Kd.C_alloc ?_ _) | (with_reducible refine Kd.C_drewN ?_ _) | (with_reducible refine Kd.C_drew ?_))); (case side2 => exact HC366.out); (case side3 => repeat (first | exact (Kd.C_below HR1.out (by repeat (first | (with_reducible first | exact HB.out | apply below_alloc | apply pw_below_drewN | apply below_drew1) | exact HB.out))) | (with_reducible refine Kd.C_alloc ?_ _) | (with_reducible refine Kd.C_drewN ?_ _) | (with_reducible refine Kd.C_drew ?_))); (case side4 => exact HC1.out); rintro e w' ⟨rfl, ⟨nd, rfl⟩⟩))
                                go_meet
                                case rel => exact ⟨_, (true), (by first | rfl | (simp; done) | (simp [*]; done)), H', ⟨by have := HJ3.out; have := HJ32.out; first | omega | exact Nat.le_refl _⟩, ⟨by (with_reducible repeat (first | apply Kd.R_alloc | apply Kd.R_drewN | apply Kd.R_drew)); exact HO_7.out⟩, ⟨by (with_reducible repeat (first | apply Kd.R_alloc | apply Kd.R_drewN | apply Kd.R_drew)); exact HO_9.out⟩, ⟨by (with_reducible repeat (first | apply Kd.R_alloc | apply Kd.R_drewN | apply Kd.R_drew)); exact HO_11.out⟩, ⟨by repeat (first | (with_reducible first | exact HB.out | apply below_alloc | apply pw_below_drewN | apply below_drew1) | exact HB.out)⟩⟩
                            · rw [if_neg c80] at H
                              exact absurd H (by simp)
                          · rw [if_neg c79] at H
                            exact absurd H (by simp)
                        · replace c78 := Bool.eq_false_iff.mpr c78
                          subst c78
                          have H1 : (steelyardlaw14_TreeSizes.j2 kj32 l0 l1 t338 t342 t346 true) = some r := by rw [if_neg (show ¬ (false = true) by decide)] at H; exact H
                          clear H
                          have H := H1
                          clear H1
                          have H' := Aside0.mk H
                          clear H
                          obtain ⟨Ao102, co102, eo102⟩ := Kd.R_slice HO_7.out
                          subst eo102
                          have q101 : ((l0.length : Int) : Int) ≤ ((t338.length : Int) : Int) := of_decide_eq_true (by first | (with_reducible assumption) | assumption)
                          obtain ⟨i0101, hi0101, _, hsz101, _⟩ := info_parts info52
                          have hroom101 : t338.length ≤ co102 := (Kd.R_reads' HO_7.out).2.1
                          have hC101 : Kd.C k52 _ Ao102 t338.length t338 := (Kd.R_reads' HO_7.out).2.2
                          have hcut101 := cut_to (P := Tryd.prog) 39 52 .i64 Tryd.underlying39 hi0101 Ao102 t338.length co102 (l0.length : Int) (of_decide_eq_true (by first | (with_reducible assumption) | assumption)) q101 hroom101
                          have hr101 := Kd.C_take (m := ((l0.length : Int) : Int).toNat) hC101 (by omega)
                          have hy101 : y353.length = ((l0.length : Int) : Int).toNat := (by rw [Ny353.out, List.length_take]; omega)
                          rw [← Ny353.out] at hr101
                          rw [← hy101] at hcut101
                          have HR356 := Aside0.mk hr101
                          have HC356 := Aside0.mk (show y353.length ≤ co102 from by omega)
                          clear hr101 hC101 hroom101 hi0101 hsz101
                          have KY101 := Aside0.mk hy101
                          clear hy101
                          have KL101 := Aside0.mk (show ((l0.length : Int) : Int).toNat ≤ t338.length from by omega)
                          replace q101 := eq_true q101
                          go_wp2_with (first | ((with_reducible refine gate_callee (f := 33) rfl ?_); refine goesL_ (some 114) rfl rfl Tryd.func33 (by kernel_rfl) rfl #[.slice Ao102 y353.length co102, .slice A0 l0.length c0] rfl (by (try simp only [List.map_toArray, List.map_cons, List.map_nil]); first | done | rfl | (simp only [List.length_drop, List.length_take]; rfl)) ?_; (with_reducible refine (steelyardkeep_Tree.calls kj32 _ _ y353 _ _ l0 true _ ?side1 ?side2 ?side3 ?side4 A73.out).mono ?_); (case side1 => repeat (first | exact (by repeat (first | (with_reducible exact HR356.out) | (with_reducible refine Kd.C_alloc ?_ _) | (with_reducible refine Kd.C_drewN ?_ _) | (with_reducible refine Kd.C_drew ?_) | exact HR356.out)) | (with_reducible refine Kd.C_alloc ?_ _) | (with_reducible refine Kd.C_drewN ?_ _) | (with_reducible refine Kd.C_drew ?_))); (case side2 => exact HC356.out); (case side3 => repeat (first | exact (Kd.C_below HR0.out HB.out) | (with_reducible refine Kd.C_alloc ?_ _) | (with_reducible refine Kd.C_drewN ?_ _) | (with_reducible refine Kd.C_drew ?_))); (case side4 => exact HC0.out); rintro e w' ⟨rfl, ⟨nd, rfl⟩⟩; refine ⟨_, rfl, ?_⟩; obtain ⟨Ao104, co104, eo104⟩ := Kd.R_slice HO_9.out; subst eo104; have q103 : ((l0.length : Int) : Int) ≤ ((t342.length : Int) : Int) := of_decide_eq_true (by first | (with_reducible assumption) | assumption); obtain ⟨i0103, hi0103, _, hsz103, _⟩ := info_parts info52; have hroom103 : t342.length ≤ co104 := (Kd.R_reads' HO_9.out).2.1; have hC103 : Kd.C k52 _ Ao104 t342.length t342 := (Kd.R_reads' HO_9.out).2.2; have hcut103 := cut_to (P := Tryd.prog) 39 52 .i64 Tryd.underlying39 hi0103 Ao104 t342.length co104 (l0.length : Int) (of_decide_eq_true (by first | (with_reducible assumption) | assumption)) q103 hroom103; have hr103 := Kd.C_take (m := ((l0.length : Int) : Int).toNat) hC103 (by omega); have hy103 : y358.length = ((l0.length : Int) : Int).toNat := (by rw [Ny358.out, List.length_take]; omega); rw [← Ny358.out] at hr103; rw [← hy103] at hcut103; have HR361 := Aside0.mk hr103; have HC361 := Aside0.mk (show y358.length ≤ co104 from by omega); clear hr103 hC103 hroom103 hi0103 hsz103; have KY103 := Aside0.mk hy103; clear hy103; have KL103 := Aside0.mk (show ((l0.length : Int) : Int).toNat ≤ t342.length from by omega); replace q103 := eq_true q103) | (go_at_call 33; (with_reducible refine (steelyardkeep_Tree.calls kj32 _ _ y358 _ _ l0 false _ ?side1 ?side2 ?side3 ?side4 A77.out).mono ?_); (case side1 => repeat (first | exact (by repeat (first | (with_reducible exact HR361.out) | (with_reducible refine Kd.C_alloc ?_ _) | (with_reducible refine Kd.C_drewN ?_ _) | (with_reducible refine Kd.C_drew ?_) | exact HR361.out)) | (with_reducible refine Kd.C_alloc ?_ _) | (with_reducible refine Kd.C_drewN ?_ _) | (with_reducible refine Kd.C_drew ?_))); (case side2 => exact HC361.out); (case side3 => repeat (first | exact (Kd.C_below HR0.out (by repeat (first | (with_reducible first | exact HB.out | apply below_alloc | apply pw_below_drewN | apply below_drew1) | exact HB.out))) | (with_reducible refine Kd.C_alloc ?_ _) | (with_reducible refine Kd.C_drewN ?_ _) | (with_reducible refine Kd.C_drew ?_))); (case side4 => exact HC0.out); rintro e w' ⟨rfl, ⟨nd, rfl⟩⟩))
                          go_meet
                          case rel => exact ⟨_, (true), (by first | rfl | (simp; done) | (simp [*]; done)), H', ⟨by have := HJ3.out; have := HJ32.out; first | omega | exact Nat.le_refl _⟩, ⟨by (with_reducible repeat (first | apply Kd.R_alloc | apply Kd.R_drewN | apply Kd.R_drew)); exact HO_7.out⟩, ⟨by (with_reducible repeat (first | apply Kd.R_alloc | apply Kd.R_drewN | apply Kd.R_drew)); exact HO_9.out⟩, ⟨by (with_reducible repeat (first | apply Kd.R_alloc | apply Kd.R_drewN | apply Kd.R_drew)); exact HO_11.out⟩, ⟨by repeat (first | (with_reducible first | exact HB.out | apply below_alloc | apply pw_below_drewN | apply below_drew1) | exact HB.out)⟩⟩
                      · rw [if_neg c76] at H
                        exact absurd H (by simp)
                    · replace c74 := Bool.eq_false_iff.mpr c74
                      subst c74
                      have H1 : (steelyardlaw14_TreeSizes.j2 kj32 l0 l1 t338 t342 t346 true) = some r := by rw [if_neg (show ¬ (false = true) by decide)] at H; exact H
                      clear H
                      have H := H1
                      clear H1
                      have H' := Aside0.mk H
                      clear H
                      obtain ⟨Ao106, co106, eo106⟩ := Kd.R_slice HO_7.out
                      subst eo106
                      have q105 : ((l0.length : Int) : Int) ≤ ((t338.length : Int) : Int) := of_decide_eq_true (by first | (with_reducible assumption) | assumption)
                      obtain ⟨i0105, hi0105, _, hsz105, _⟩ := info_parts info52
                      have hroom105 : t338.length ≤ co106 := (Kd.R_reads' HO_7.out).2.1
                      have hC105 : Kd.C k52 _ Ao106 t338.length t338 := (Kd.R_reads' HO_7.out).2.2
                      have hcut105 := cut_to (P := Tryd.prog) 39 52 .i64 Tryd.underlying39 hi0105 Ao106 t338.length co106 (l0.length : Int) (of_decide_eq_true (by first | (with_reducible assumption) | assumption)) q105 hroom105
                      have hr105 := Kd.C_take (m := ((l0.length : Int) : Int).toNat) hC105 (by omega)
                      have hy105 : y353.length = ((l0.length : Int) : Int).toNat := (by rw [Ny353.out, List.length_take]; omega)
                      rw [← Ny353.out] at hr105
                      rw [← hy105] at hcut105
                      have HR356 := Aside0.mk hr105
                      have HC356 := Aside0.mk (show y353.length ≤ co106 from by omega)
                      clear hr105 hC105 hroom105 hi0105 hsz105
                      have KY105 := Aside0.mk hy105
                      clear hy105
                      have KL105 := Aside0.mk (show ((l0.length : Int) : Int).toNat ≤ t338.length from by omega)
                      replace q105 := eq_true q105
                      go_wp2_with (first | ((with_reducible refine gate_callee (f := 33) rfl ?_); refine goesL_ (some 114) rfl rfl Tryd.func33 (by kernel_rfl) rfl #[.slice Ao106 y353.length co106, .slice A0 l0.length c0] rfl (by (try simp only [List.map_toArray, List.map_cons, List.map_nil]); first | done | rfl | (simp only [List.length_drop, List.length_take]; rfl)) ?_; (with_reducible refine (steelyardkeep_Tree.calls kj32 _ _ y353 _ _ l0 false _ ?side1 ?side2 ?side3 ?side4 A73.out).mono ?_); (case side1 => repeat (first | exact (by repeat (first | (with_reducible exact HR356.out) | (with_reducible refine Kd.C_alloc ?_ _) | (with_reducible refine Kd.C_drewN ?_ _) | (with_reducible refine Kd.C_drew ?_) | exact HR356.out)) | (with_reducible refine Kd.C_alloc ?_ _) | (with_reducible refine Kd.C_drewN ?_ _) | (with_reducible refine Kd.C_drew ?_))); (case side2 => exact HC356.out); (case side3 => repeat (first | exact (Kd.C_below HR0.out HB.out) | (with_reducible refine Kd.C_alloc ?_ _) | (with_reducible refine Kd.C_drewN ?_ _) | (with_reducible refine Kd.C_drew ?_))); (case side4 => exact HC0.out); rintro e w' ⟨rfl, ⟨nd, rfl⟩⟩; refine ⟨_, rfl, ?_⟩))
                      go_meet
                      case rel => exact ⟨_, (true), (by first | rfl | (simp; done) | (simp [*]; done)), H', ⟨by have := HJ3.out; have := HJ32.out; first | omega | exact Nat.le_refl _⟩, ⟨by (with_reducible repeat (first | apply Kd.R_alloc | apply Kd.R_drewN | apply Kd.R_drew)); exact HO_7.out⟩, ⟨by (with_reducible repeat (first | apply Kd.R_alloc | apply Kd.R_drewN | apply Kd.R_drew)); exact HO_9.out⟩, ⟨by (with_reducible repeat (first | apply Kd.R_alloc | apply Kd.R_drewN | apply Kd.R_drew)); exact HO_11.out⟩, ⟨by repeat (first | (with_reducible first | exact HB.out | apply below_alloc | apply pw_below_drewN | apply below_drew1) | exact HB.out)⟩⟩
                  · rw [if_neg c72] at H
                    exact absurd H (by simp)
                · rw [if_neg c71] at H
                  exact absurd H (by simp)
              case rest =>
                clear HC70
                try clear c1
                try clear q1
                try clear c2
                try clear p2
                try clear c3
                try clear c4
                try clear c6
                try clear p6
                try clear c7
                try clear c8
                try clear q8
                try clear c9
                try clear q9
                try clear q10
                try clear c13
                try clear c15
                try clear c22
                try clear c23
                try clear c27
                try clear c28
                try clear c29
                try clear c33
                try clear c37
                try clear c38
                try clear c39
                try clear c40
                try clear c40b0
                try clear c40b1
                try clear c41
                try clear c41b0
                try clear c41b1
                try clear c42
                try clear c42b0
                try clear c42b1
                try clear c44
                try clear c46
                try clear p64
                try clear c69
                try clear c71
                try clear c71b0
                try clear c71b1
                try clear c72
                try clear c72b0
                try clear c72b1
                try clear c74
                try clear c75
                try clear c75b0
                try clear c76
                try clear c76b0
                try clear c76b1
                try clear c78
                try clear c79
                try clear c79b0
                try clear c79b1
                try clear c80
                try clear c80b0
                try clear c80b1
                try clear c82
                try clear c84
                try clear c84b0
                try clear c84b1
                try clear c85
                try clear c85b0
                try clear c85b1
                try clear q87
                try clear q89
                try clear q91
                try clear q93
                try clear q95
                try clear q97
                try clear q99
                try clear q101
                try clear q103
                try clear q105
                try clear p2
                try clear p6
                try clear p64
                try clear q101
                try clear q103
                try clear q105
                try clear q87
                try clear q89
                try clear q91
                try clear q93
                try clear q95
                try clear q97
                try clear q99
                obtain ⟨kq, x141_69, rfl, HA, HJ69, HO_7, HO_9, HO_11, HB⟩ := hcut
                cases kq with
                | zero => exact absurd HA.out (by simp [steelyardlaw14_TreeSizes.j2])
                | succ kj69 =>
                  have H := HA.out
                  clear HA
                  simp only [steelyardlaw14_TreeSizes.j2] at H
                  by_cases c107 : x141_69 = true
                  · subst c107
                    have H1 : (some false) = some r := by rw [if_pos rfl] at H; exact H
                    clear H
                    have H := H1
                    clear H1
                    obtain rfl := Option.some.inj H
                    go_wp2
                    go_ret
                    exact ⟨by first | rfl | (simp [errW_none, errW_some] <;> rfl) | (simp [*, errW_none, errW_some] <;> rfl), by repeat (first | (with_reducible first | exact HB.out | apply below_alloc | apply pw_below_drewN | apply below_drew1) | exact HB.out)⟩
                  · replace c107 := Bool.eq_false_iff.mpr c107
                    subst c107
                    have H1 : ((tree_Deep.f kj69 t338).bind fun t373 => ((tree_Deep.f kj69 l0).bind fun t374 => ((tree_Deep.f kj69 l1).bind fun t375 => (if t373 = (wrap64 (1 + (mx t374 t375))) then ((tree_Deep.f kj69 t342).bind fun t376 => ((tree_Deep.f kj69 l0).bind fun t377 => (if t376 = (wrap64 (1 + t377)) then ((tree_Deep.f kj69 t346).bind fun t378 => ((tree_Deep.f kj69 l1).bind fun t379 => (if t378 = (wrap64 (1 + t379)) then ((tree_Deep.f kj69 l0).bind fun t380 => (if t380 ≥ 1 then ((steelyardlaw14_wakes.f).bind fun t381 => (some t381)) else (some false))) else (some false)))) else (some false)))) else (some false))))) = some r := by rw [if_neg (show ¬ (false = true) by decide)] at H; exact H
                    clear H
                    have H := H1
                    clear H1
                    replace H := Option.bind_eq_some_iff.mp H
                    obtain ⟨t373, A1080, H⟩ := H
                    replace H : ((tree_Deep.f kj69 l0).bind fun t374 => ((tree_Deep.f kj69 l1).bind fun t375 => (if t373 = (wrap64 (1 + (mx t374 t375))) then ((tree_Deep.f kj69 t342).bind fun t376 => ((tree_Deep.f kj69 l0).bind fun t377 => (if t376 = (wrap64 (1 + t377)) then ((tree_Deep.f kj69 t346).bind fun t378 => ((tree_Deep.f kj69 l1).bind fun t379 => (if t378 = (wrap64 (1 + t379)) then ((tree_Deep.f kj69 l0).bind fun t380 => (if t380 ≥ 1 then ((steelyardlaw14_wakes.f).bind fun t381 => (some t381)) else (some false))) else (some false)))) else (some false)))) else (some false)))) = some r := H
                    have A108 := Aside0.mk A1080
                    clear A1080
                    replace H := Option.bind_eq_some_iff.mp H
                    obtain ⟨t374, A1090, H⟩ := H
                    replace H : ((tree_Deep.f kj69 l1).bind fun t375 => (if t373 = (wrap64 (1 + (mx t374 t375))) then ((tree_Deep.f kj69 t342).bind fun t376 => ((tree_Deep.f kj69 l0).bind fun t377 => (if t376 = (wrap64 (1 + t377)) then ((tree_Deep.f kj69 t346).bind fun t378 => ((tree_Deep.f kj69 l1).bind fun t379 => (if t378 = (wrap64 (1 + t379)) then ((tree_Deep.f kj69 l0).bind fun t380 => (if t380 ≥ 1 then ((steelyardlaw14_wakes.f).bind fun t381 => (some t381)) else (some false))) else (some false)))) else (some false)))) else (some false))) = some r := H
                    have A109 := Aside0.mk A1090
                    clear A1090
                    replace H := Option.bind_eq_some_iff.mp H
                    obtain ⟨t375, A1100, H⟩ := H
                    replace H : (if t373 = (wrap64 (1 + (mx t374 t375))) then ((tree_Deep.f kj69 t342).bind fun t376 => ((tree_Deep.f kj69 l0).bind fun t377 => (if t376 = (wrap64 (1 + t377)) then ((tree_Deep.f kj69 t346).bind fun t378 => ((tree_Deep.f kj69 l1).bind fun t379 => (if t378 = (wrap64 (1 + t379)) then ((tree_Deep.f kj69 l0).bind fun t380 => (if t380 ≥ 1 then ((steelyardlaw14_wakes.f).bind fun t381 => (some t381)) else (some false))) else (some false)))) else (some false)))) else (some false)) = some r := H
                    have A110 := Aside0.mk A1100
                    clear A1100
                    obtain ⟨ji111, hji111⟩ : ∃ j_ : Int, (mx t374 t375) = j_ := ⟨_, rfl⟩
                    replace H : (if t373 = (wrap64 (1 + (ji111))) then ((tree_Deep.f kj69 t342).bind fun t376 => ((tree_Deep.f kj69 l0).bind fun t377 => (if t376 = (wrap64 (1 + t377)) then ((tree_Deep.f kj69 t346).bind fun t378 => ((tree_Deep.f kj69 l1).bind fun t379 => (if t378 = (wrap64 (1 + t379)) then ((tree_Deep.f kj69 l0).bind fun t380 => (if t380 ≥ 1 then ((steelyardlaw14_wakes.f).bind fun t381 => (some t381)) else (some false))) else (some false)))) else (some false)))) else (some false)) = some r := by first | (rw [hji111] at H; exact H) | (simp only [hji111] at H ⊢; exact H)
                    (try rw [hji111] at A108)
                    (try rw [hji111] at A109)
                    (try rw [hji111] at A110)
                    have hji111_ : (if t374 < t375 then t375 else t374) = ji111 := hji111
                    by_cases c112 : t373 = (wrap64 (1 + (ji111)))
                    · rw [if_pos c112] at H
                      have c112b0 : (t373 == (wrap64 (1 + (ji111)))) = true := beq_iff_eq.mpr c112
                      have c112b1 : (t373 != (wrap64 (1 + (ji111)))) = false := bne_eq_false_iff_eq.mpr c112
                      clear c112
                      replace H := Option.bind_eq_some_iff.mp H
                      obtain ⟨t376, A1130, H⟩ := H
                      replace H : ((tree_Deep.f kj69 l0).bind fun t377 => (if t376 = (wrap64 (1 + t377)) then ((tree_Deep.f kj69 t346).bind fun t378 => ((tree_Deep.f kj69 l1).bind fun t379 => (if t378 = (wrap64 (1 + t379)) then ((tree_Deep.f kj69 l0).bind fun t380 => (if t380 ≥ 1 then ((steelyardlaw14_wakes.f).bind fun t381 => (some t381)) else (some false))) else (some false)))) else (some false))) = some r := H
                      have A113 := Aside0.mk A1130
                      clear A1130
                      replace H := Option.bind_eq_some_iff.mp H
                      obtain ⟨t377, A1140, H⟩ := H
                      replace H : (if t376 = (wrap64 (1 + t377)) then ((tree_Deep.f kj69 t346).bind fun t378 => ((tree_Deep.f kj69 l1).bind fun t379 => (if t378 = (wrap64 (1 + t379)) then ((tree_Deep.f kj69 l0).bind fun t380 => (if t380 ≥ 1 then ((steelyardlaw14_wakes.f).bind fun t381 => (some t381)) else (some false))) else (some false)))) else (some false)) = some r := H
                      have A114 := Aside0.mk A1140
                      clear A1140
                      by_cases c115 : t376 = (wrap64 (1 + t377))
                      · rw [if_pos c115] at H
                        have c115b0 : (t376 == (wrap64 (1 + t377))) = true := beq_iff_eq.mpr c115
                        have c115b1 : (t376 != (wrap64 (1 + t377))) = false := bne_eq_false_iff_eq.mpr c115
                        clear c115
                        replace H := Option.bind_eq_some_iff.mp H
                        obtain ⟨t378, A1160, H⟩ := H
                        replace H : ((tree_Deep.f kj69 l1).bind fun t379 => (if t378 = (wrap64 (1 + t379)) then ((tree_Deep.f kj69 l0).bind fun t380 => (if t380 ≥ 1 then ((steelyardlaw14_wakes.f).bind fun t381 => (some t381)) else (some false))) else (some false))) = some r := H
                        have A116 := Aside0.mk A1160
                        clear A1160
                        replace H := Option.bind_eq_some_iff.mp H
                        obtain ⟨t379, A1170, H⟩ := H
                        replace H : (if t378 = (wrap64 (1 + t379)) then ((tree_Deep.f kj69 l0).bind fun t380 => (if t380 ≥ 1 then ((steelyardlaw14_wakes.f).bind fun t381 => (some t381)) else (some false))) else (some false)) = some r := H
                        have A117 := Aside0.mk A1170
                        clear A1170
                        by_cases c118 : t378 = (wrap64 (1 + t379))
                        · rw [if_pos c118] at H
                          have c118b0 : (t378 == (wrap64 (1 + t379))) = true := beq_iff_eq.mpr c118
                          have c118b1 : (t378 != (wrap64 (1 + t379))) = false := bne_eq_false_iff_eq.mpr c118
                          clear c118
                          replace H := Option.bind_eq_some_iff.mp H
                          obtain ⟨t380, A1190, H⟩ := H
                          replace H : (if t380 ≥ 1 then ((steelyardlaw14_wakes.f).bind fun t381 => (some t381)) else (some false)) = some r := H
                          have A119 := Aside0.mk A1190
                          clear A1190
                          by_cases c120 : t380 ≥ 1
                          · rw [if_pos c120] at H
                            have c120b0 : decide (1 ≤ t380) = true := decide_eq_true c120
                            clear c120
                            replace H := Option.bind_eq_some_iff.mp H
                            obtain ⟨t381, A1210, H⟩ := H
                            replace H : (some t381) = some r := H
                            have A121 := Aside0.mk A1210
                            clear A1210
                            obtain rfl := Option.some.inj H
                            obtain ⟨Ao122, co122, eo122⟩ := Kd.R_slice HO_7.out
                            subst eo122
                            go_wp2_with (first | ((with_reducible refine gate_callee (f := 37) rfl ?_); refine goesL_ (some 143) rfl rfl Tryd.func37 (by kernel_rfl) rfl #[.slice Ao122 t338.length co122] rfl (by (try simp only [List.map_toArray, List.map_cons, List.map_nil]); first | done | rfl | (simp only [List.length_drop, List.length_take]; rfl)) ?_; (with_reducible refine (tree_Deep.calls kj69 _ _ t338 t373 _ ?side1 ?side2 A108.out ?sideG_).mono ?_); (case sideG_ => (first | (with_reducible exact HG_.out) | exact HG_.out.below (by repeat (first | (with_reducible first | exact HB.out | apply below_alloc | apply pw_below_drewN | apply below_drew1) | exact HB.out)))); (case side1 => repeat (first | exact (Kd.R_reads' HO_7.out).2.2 | (with_reducible refine Kd.C_alloc ?_ _) | (with_reducible refine Kd.C_drewN ?_ _) | (with_reducible refine Kd.C_drew ?_))); (case side2 => exact (Kd.R_reads' HO_7.out).2.1); rintro e w123 ⟨rfl, hb⟩; refine ⟨_, rfl, ?_⟩; have n0_ := Aside0.mk (Kd.R_below (by (with_reducible repeat (first | apply Kd.R_alloc | apply Kd.R_drewN | apply Kd.R_drew)); exact HO_7.out) hb); have n1_ := Aside0.mk (Kd.R_below (by (with_reducible repeat (first | apply Kd.R_alloc | apply Kd.R_drewN | apply Kd.R_drew)); exact HO_9.out) hb); have n2_ := Aside0.mk (Kd.R_below (by (with_reducible repeat (first | apply Kd.R_alloc | apply Kd.R_drewN | apply Kd.R_drew)); exact HO_11.out) hb); have n3_ := Aside0.mk (below_step (by repeat (first | (with_reducible first | exact HB.out | apply below_alloc | apply pw_below_drewN | apply below_drew1) | exact HB.out)) hb); clear HO_7; clear HO_9; clear HO_11; clear HB; have HO_7 := n0_; have HO_9 := n1_; have HO_11 := n2_; have HB := n3_; clear n0_ n1_ n2_ n3_; (try clear hb); (try clear hb2); (try clear hk); (try clear hi)) | ((with_reducible refine gate_callee (f := 37) rfl ?_); refine goesL_ (some 145) rfl rfl Tryd.func37 (by kernel_rfl) rfl #[.slice A0 l0.length c0] rfl (by (try simp only [List.map_toArray, List.map_cons, List.map_nil]); first | done | rfl | (simp only [List.length_drop, List.length_take]; rfl)) ?_; (with_reducible refine (tree_Deep.calls kj69 _ _ l0 t374 _ ?side1 ?side2 A109.out ?sideG_).mono ?_); (case sideG_ => (first | (with_reducible exact HG_.out) | exact HG_.out.below (by repeat (first | (with_reducible first | exact HB.out | apply below_alloc | apply pw_below_drewN | apply below_drew1) | exact HB.out)))); (case side1 => repeat (first | exact (Kd.C_below HR0.out HB.out) | (with_reducible refine Kd.C_alloc ?_ _) | (with_reducible refine Kd.C_drewN ?_ _) | (with_reducible refine Kd.C_drew ?_))); (case side2 => exact HC0.out); rintro e w124 ⟨rfl, hb⟩; refine ⟨_, rfl, ?_⟩; have n0_ := Aside0.mk (Kd.R_below (by (with_reducible repeat (first | apply Kd.R_alloc | apply Kd.R_drewN | apply Kd.R_drew)); exact HO_7.out) hb); have n1_ := Aside0.mk (Kd.R_below (by (with_reducible repeat (first | apply Kd.R_alloc | apply Kd.R_drewN | apply Kd.R_drew)); exact HO_9.out) hb); have n2_ := Aside0.mk (Kd.R_below (by (with_reducible repeat (first | apply Kd.R_alloc | apply Kd.R_drewN | apply Kd.R_drew)); exact HO_11.out) hb); have n3_ := Aside0.mk (below_step (by repeat (first | (with_reducible first | exact HB.out | apply below_alloc | apply pw_below_drewN | apply below_drew1) | exact HB.out)) hb); clear HO_7; clear HO_9; clear HO_11; clear HB; have HO_7 := n0_; have HO_9 := n1_; have HO_11 := n2_; have HB := n3_; clear n0_ n1_ n2_ n3_; (try clear hb); (try clear hb2); (try clear hk); (try clear hi)) | ((with_reducible refine gate_callee (f := 37) rfl ?_); refine goesL_ (some 147) rfl rfl Tryd.func37 (by kernel_rfl) rfl #[.slice A1 l1.length c1] rfl (by (try simp only [List.map_toArray, List.map_cons, List.map_nil]); first | done | rfl | (simp only [List.length_drop, List.length_take]; rfl)) ?_; (with_reducible refine (tree_Deep.calls kj69 _ _ l1 t375 _ ?side1 ?side2 A110.out ?sideG_).mono ?_); (case sideG_ => (first | (with_reducible exact HG_.out) | exact HG_.out.below (by repeat (first | (with_reducible first | exact HB.out | apply below_alloc | apply pw_below_drewN | apply below_drew1) | exact HB.out)))); (case side1 => repeat (first | exact (Kd.C_below HR1.out HB.out) | (with_reducible refine Kd.C_alloc ?_ _) | (with_reducible refine Kd.C_drewN ?_ _) | (with_reducible refine Kd.C_drew ?_))); (case side2 => exact HC1.out); rintro e w125 ⟨rfl, hb⟩; refine ⟨_, rfl, ?_⟩; have n0_ := Aside0.mk (Kd.R_below (by (with_reducible repeat (first | apply Kd.R_alloc | apply Kd.R_drewN | apply Kd.R_drew)); exact HO_7.out) hb); have n1_ := Aside0.mk (Kd.R_below (by (with_reducible repeat (first | apply Kd.R_alloc | apply Kd.R_drewN | apply Kd.R_drew)); exact HO_9.out) hb); have n2_ := Aside0.mk (Kd.R_below (by (with_reducible repeat (first | apply Kd.R_alloc | apply Kd.R_drewN | apply Kd.R_drew)); exact HO_11.out) hb); have n3_ := Aside0.mk (below_step (by repeat (first | (with_reducible first | exact HB.out | apply below_alloc | apply pw_below_drewN | apply below_drew1) | exact HB.out)) hb); clear HO_7; clear HO_9; clear HO_11; clear HB; have HO_7 := n0_; have HO_9 := n1_; have HO_11 := n2_; have HB := n3_; clear n0_ n1_ n2_ n3_; (try clear hb); (try clear hb2); (try clear hk); (try clear hi); obtain ⟨Ao126, co126, eo126⟩ := Kd.R_slice HO_9.out; subst eo126) | (go_at_call 37; (with_reducible refine (tree_Deep.calls kj69 _ _ t342 t376 _ ?side1 ?side2 A113.out ?sideG_).mono ?_); (case sideG_ => (first | (with_reducible exact HG_.out) | exact HG_.out.below (by repeat (first | (with_reducible first | exact HB.out | apply below_alloc | apply pw_below_drewN | apply below_drew1) | exact HB.out)))); (case side1 => repeat (first | exact (Kd.R_reads' HO_9.out).2.2 | (with_reducible refine Kd.C_alloc ?_ _) | (with_reducible refine Kd.C_drewN ?_ _) | (with_reducible refine Kd.C_drew ?_))); (case side2 => exact (Kd.R_reads' HO_9.out).2.1); rintro e w127 ⟨rfl, hb⟩; have n0_ := Aside0.mk (Kd.R_below (by (with_reducible repeat (first | apply Kd.R_alloc | apply Kd.R_drewN | apply Kd.R_drew)); exact HO_7.out) hb); have n1_ := Aside0.mk (Kd.R_below (by (with_reducible repeat (first | apply Kd.R_alloc | apply Kd.R_drewN | apply Kd.R_drew)); exact HO_9.out) hb); have n2_ := Aside0.mk (Kd.R_below (by (with_reducible repeat (first | apply Kd.R_alloc | apply Kd.R_drewN | apply Kd.R_drew)); exact HO_11.out) hb); have n3_ := Aside0.mk (below_step (by repeat (first | (with_reducible first | exact HB.out | apply below_alloc | apply pw_below_drewN | apply below_drew1) | exact HB.out)) hb); clear HO_7; clear HO_9; clear HO_11; clear HB; have HO_7 := n0_; have HO_9 := n1_; have HO_11 := n2_; have HB := n3_; clear n0_ n1_ n2_ n3_; (try clear hb); (try clear hb2); (try clear hk); (try clear hi)) | (go_at_call 37; (with_reducible refine (tree_Deep.calls kj69 _ _ l0 t377 _ ?side1 ?side2 A114.out ?sideG_).mono ?_); (case sideG_ => (first | (with_reducible exact HG_.out) | exact HG_.out.below (by repeat (first | (with_reducible first | exact HB.out | apply below_alloc | apply pw_below_drewN | apply below_drew1) | exact HB.out)))); (case side1 => repeat (first | exact (Kd.C_below HR0.out HB.out) | (with_reducible refine Kd.C_alloc ?_ _) | (with_reducible refine Kd.C_drewN ?_ _) | (with_reducible refine Kd.C_drew ?_))); (case side2 => exact HC0.out); rintro e w128 ⟨rfl, hb⟩; have n0_ := Aside0.mk (Kd.R_below (by (with_reducible repeat (first | apply Kd.R_alloc | apply Kd.R_drewN | apply Kd.R_drew)); exact HO_7.out) hb); have n1_ := Aside0.mk (Kd.R_below (by (with_reducible repeat (first | apply Kd.R_alloc | apply Kd.R_drewN | apply Kd.R_drew)); exact HO_9.out) hb); have n2_ := Aside0.mk (Kd.R_below (by (with_reducible repeat (first | apply Kd.R_alloc | apply Kd.R_drewN | apply Kd.R_drew)); exact HO_11.out) hb); have n3_ := Aside0.mk (below_step (by repeat (first | (with_reducible first | exact HB.out | apply below_alloc | apply pw_below_drewN | apply below_drew1) | exact HB.out)) hb); clear HO_7; clear HO_9; clear HO_11; clear HB; have HO_7 := n0_; have HO_9 := n1_; have HO_11 := n2_; have HB := n3_; clear n0_ n1_ n2_ n3_; (try clear hb); (try clear hb2); (try clear hk); (try clear hi); obtain ⟨Ao129, co129, eo129⟩ := Kd.R_slice HO_11.out; subst eo129) | (go_at_call 37; (with_reducible refine (tree_Deep.calls kj69 _ _ t346 t378 _ ?side1 ?side2 A116.out ?sideG_).mono ?_); (case sideG_ => (first | (with_reducible exact HG_.out) | exact HG_.out.below (by repeat (first | (with_reducible first | exact HB.out | apply below_alloc | apply pw_below_drewN | apply below_drew1) | exact HB.out)))); (case side1 => repeat (first | exact (Kd.R_reads' HO_11.out).2.2 | (with_reducible refine Kd.C_alloc ?_ _) | (with_reducible refine Kd.C_drewN ?_ _) | (with_reducible refine Kd.C_drew ?_))); (case side2 => exact (Kd.R_reads' HO_11.out).2.1); rintro e w130 ⟨rfl, hb⟩; have n0_ := Aside0.mk (Kd.R_below (by (with_reducible repeat (first | apply Kd.R_alloc | apply Kd.R_drewN | apply Kd.R_drew)); exact HO_7.out) hb); have n1_ := Aside0.mk (Kd.R_below (by (with_reducible repeat (first | apply Kd.R_alloc | apply Kd.R_drewN | apply Kd.R_drew)); exact HO_9.out) hb); have n2_ := Aside0.mk (Kd.R_below (by (with_reducible repeat (first | apply Kd.R_alloc | apply Kd.R_drewN | apply Kd.R_drew)); exact HO_11.out) hb); have n3_ := Aside0.mk (below_step (by repeat (first | (with_reducible first | exact HB.out | apply below_alloc | apply pw_below_drewN | apply below_drew1) | exact HB.out)) hb); clear HO_7; clear HO_9; clear HO_11; clear HB; have HO_7 := n0_; have HO_9 := n1_; have HO_11 := n2_; have HB := n3_; clear n0_ n1_ n2_ n3_; (try clear hb); (try clear hb2); (try clear hk); (try clear hi)) | (go_at_call 37; (with_reducible refine (tree_Deep.calls kj69 _ _ l1 t379 _ ?side1 ?side2 A117.out ?sideG_).mono ?_); (case sideG_ => (first | (with_reducible exact HG_.out) | exact HG_.out.below (by repeat (first | (with_reducible first | exact HB.out | apply below_alloc | apply pw_below_drewN | apply below_drew1) | exact HB.out)))); (case side1 => repeat (first | exact (Kd.C_below HR1.out HB.out) | (with_reducible refine Kd.C_alloc ?_ _) | (with_reducible refine Kd.C_drewN ?_ _) | (with_reducible refine Kd.C_drew ?_))); (case side2 => exact HC1.out); rintro e w131 ⟨rfl, hb⟩; have n0_ := Aside0.mk (Kd.R_below (by (with_reducible repeat (first | apply Kd.R_alloc | apply Kd.R_drewN | apply Kd.R_drew)); exact HO_7.out) hb); have n1_ := Aside0.mk (Kd.R_below (by (with_reducible repeat (first | apply Kd.R_alloc | apply Kd.R_drewN | apply Kd.R_drew)); exact HO_9.out) hb); have n2_ := Aside0.mk (Kd.R_below (by (with_reducible repeat (first | apply Kd.R_alloc | apply Kd.R_drewN | apply Kd.R_drew)); exact HO_11.out) hb); have n3_ := Aside0.mk (below_step (by repeat (first | (with_reducible first | exact HB.out | apply below_alloc | apply pw_below_drewN | apply below_drew1) | exact HB.out)) hb); clear HO_7; clear HO_9; clear HO_11; clear HB; have HO_7 := n0_; have HO_9 := n1_; have HO_11 := n2_; have HB := n3_; clear n0_ n1_ n2_ n3_; (try clear hb); (try clear hb2); (try clear hk); (try clear hi)) | (go_at_call 37; (with_reducible refine (tree_Deep.calls kj69 _ _ l0 t380 _ ?side1 ?side2 A119.out ?sideG_).mono ?_); (case sideG_ => (first | (with_reducible exact HG_.out) | exact HG_.out.below (by repeat (first | (with_reducible first | exact HB.out | apply below_alloc | apply pw_below_drewN | apply below_drew1) | exact HB.out)))); (case side1 => repeat (first | exact (Kd.C_below HR0.out HB.out) | (with_reducible refine Kd.C_alloc ?_ _) | (with_reducible refine Kd.C_drewN ?_ _) | (with_reducible refine Kd.C_drew ?_))); (case side2 => exact HC0.out); rintro e w132 ⟨rfl, hb⟩; have n0_ := Aside0.mk (Kd.R_below (by (with_reducible repeat (first | apply Kd.R_alloc | apply Kd.R_drewN | apply Kd.R_drew)); exact HO_7.out) hb); have n1_ := Aside0.mk (Kd.R_below (by (with_reducible repeat (first | apply Kd.R_alloc | apply Kd.R_drewN | apply Kd.R_drew)); exact HO_9.out) hb); have n2_ := Aside0.mk (Kd.R_below (by (with_reducible repeat (first | apply Kd.R_alloc | apply Kd.R_drewN | apply Kd.R_drew)); exact HO_11.out) hb); have n3_ := Aside0.mk (below_step (by repeat (first | (with_reducible first | exact HB.out | apply below_alloc | apply pw_below_drewN | apply below_drew1) | exact HB.out)) hb); clear HO_7; clear HO_9; clear HO_11; clear HB; have HO_7 := n0_; have HO_9 := n1_; have HO_11 := n2_; have HB := n3_; clear n0_ n1_ n2_ n3_; (try clear hb); (try clear hb2); (try clear hk); (try clear hi)) | (go_at_call 23; (with_reducible refine (steelyardlaw14_wakes.calls  t381 _ A121.out ?sideG_).mono ?_); (case sideG_ => (first | (with_reducible exact HG_.out) | exact HG_.out.below (by repeat (first | (with_reducible first | exact HB.out | apply below_alloc | apply pw_below_drewN | apply below_drew1) | exact HB.out)))); rintro e w133 ⟨rfl, hb⟩; have n0_ := Aside0.mk (Kd.R_below (by (with_reducible repeat (first | apply Kd.R_alloc | apply Kd.R_drewN | apply Kd.R_drew)); exact HO_7.out) hb); have n1_ := Aside0.mk (Kd.R_below (by (with_reducible repeat (first | apply Kd.R_alloc | apply Kd.R_drewN | apply Kd.R_drew)); exact HO_9.out) hb); have n2_ := Aside0.mk (Kd.R_below (by (with_reducible repeat (first | apply Kd.R_alloc | apply Kd.R_drewN | apply Kd.R_drew)); exact HO_11.out) hb); have n3_ := Aside0.mk (below_step (by repeat (first | (with_reducible first | exact HB.out | apply below_alloc | apply pw_below_drewN | apply below_drew1) | exact HB.out)) hb); clear HO_7; clear HO_9; clear HO_11; clear HB; have HO_7 := n0_; have HO_9 := n1_; have HO_11 := n2_; have HB := n3_; clear n0_ n1_ n2_ n3_; (try clear hb); (try clear hb2); (try clear hk); (try clear hi)))
                            go_ret
                            exact ⟨by first | rfl | (simp [errW_none, errW_some] <;> rfl) | (simp only [← hji111]; first | rfl | (simp [errW_none, errW_some] <;> rfl)) | (simp [*, errW_none, errW_some] <;> rfl), by repeat (first | (with_reducible first | exact HB.out | apply below_alloc | apply pw_below_drewN | apply below_drew1) | exact HB.out)⟩
                          · rw [if_neg c120] at H
                            have c120b0 : decide (1 ≤ t380) = false := decide_eq_false c120
                            clear c120
                            obtain rfl := Option.some.inj H
                            obtain ⟨Ao134, co134, eo134⟩ := Kd.R_slice HO_7.out
                            subst eo134
                            go_wp2_with (first | ((with_reducible refine gate_callee (f := 37) rfl ?_); refine goesL_ (some 143) rfl rfl Tryd.func37 (by kernel_rfl) rfl #[.slice Ao134 t338.length co134] rfl (by (try simp only [List.map_toArray, List.map_cons, List.map_nil]); first | done | rfl | (simp only [List.length_drop, List.length_take]; rfl)) ?_; (with_reducible refine (tree_Deep.calls kj69 _ _ t338 t373 _ ?side1 ?side2 A108.out ?sideG_).mono ?_); (case sideG_ => (first | (with_reducible exact HG_.out) | exact HG_.out.below (by repeat (first | (with_reducible first | exact HB.out | apply below_alloc | apply pw_below_drewN | apply below_drew1) | exact HB.out)))); (case side1 => repeat (first | exact (Kd.R_reads' HO_7.out).2.2 | (with_reducible refine Kd.C_alloc ?_ _) | (with_reducible refine Kd.C_drewN ?_ _) | (with_reducible refine Kd.C_drew ?_))); (case side2 => exact (Kd.R_reads' HO_7.out).2.1); rintro e w135 ⟨rfl, hb⟩; refine ⟨_, rfl, ?_⟩; have n0_ := Aside0.mk (Kd.R_below (by (with_reducible repeat (first | apply Kd.R_alloc | apply Kd.R_drewN | apply Kd.R_drew)); exact HO_7.out) hb); have n1_ := Aside0.mk (Kd.R_below (by (with_reducible repeat (first | apply Kd.R_alloc | apply Kd.R_drewN | apply Kd.R_drew)); exact HO_9.out) hb); have n2_ := Aside0.mk (Kd.R_below (by (with_reducible repeat (first | apply Kd.R_alloc | apply Kd.R_drewN | apply Kd.R_drew)); exact HO_11.out) hb); have n3_ := Aside0.mk (below_step (by repeat (first | (with_reducible first | exact HB.out | apply below_alloc | apply pw_below_drewN | apply below_drew1) | exact HB.out)) hb); clear HO_7; clear HO_9; clear HO_11; clear HB; have HO_7 := n0_; have HO_9 := n1_; have HO_11 := n2_; have HB := n3_; clear n0_ n1_ n2_ n3_; (try clear hb); (try clear hb2); (try clear hk); (try clear hi)) | ((with_reducible refine gate_callee (f := 37) rfl ?_); refine goesL_ (some 145) rfl rfl Tryd.func37 (by kernel_rfl) rfl #[.slice A0 l0.length c0] rfl (by (try simp only [List.map_toArray, List.map_cons, List.map_nil]); first | done | rfl | (simp only [List.length_drop, List.length_take]; rfl)) ?_; (with_reducible refine (tree_Deep.calls kj69 _ _ l0 t374 _ ?side1 ?side2 A109.out ?sideG_).mono ?_); (case sideG_ => (first | (with_reducible exact HG_.out) | exact HG_.out.below (by repeat (first | (with_reducible first | exact HB.out | apply below_alloc | apply pw_below_drewN | apply below_drew1) | exact HB.out)))); (case side1 => repeat (first | exact (Kd.C_below HR0.out HB.out) | (with_reducible refine Kd.C_alloc ?_ _) | (with_reducible refine Kd.C_drewN ?_ _) | (with_reducible refine Kd.C_drew ?_))); (case side2 => exact HC0.out); rintro e w136 ⟨rfl, hb⟩; refine ⟨_, rfl, ?_⟩; have n0_ := Aside0.mk (Kd.R_below (by (with_reducible repeat (first | apply Kd.R_alloc | apply Kd.R_drewN | apply Kd.R_drew)); exact HO_7.out) hb); have n1_ := Aside0.mk (Kd.R_below (by (with_reducible repeat (first | apply Kd.R_alloc | apply Kd.R_drewN | apply Kd.R_drew)); exact HO_9.out) hb); have n2_ := Aside0.mk (Kd.R_below (by (with_reducible repeat (first | apply Kd.R_alloc | apply Kd.R_drewN | apply Kd.R_drew)); exact HO_11.out) hb); have n3_ := Aside0.mk (below_step (by repeat (first | (with_reducible first | exact HB.out | apply below_alloc | apply pw_below_drewN | apply below_drew1) | exact HB.out)) hb); clear HO_7; clear HO_9; clear HO_11; clear HB; have HO_7 := n0_; have HO_9 := n1_; have HO_11 := n2_; have HB := n3_; clear n0_ n1_ n2_ n3_; (try clear hb); (try clear hb2); (try clear hk); (try clear hi)) | ((with_reducible refine gate_callee (f := 37) rfl ?_); refine goesL_ (some 147) rfl rfl Tryd.func37 (by kernel_rfl) rfl #[.slice A1 l1.length c1] rfl (by (try simp only [List.map_toArray, List.map_cons, List.map_nil]); first | done | rfl | (simp only [List.length_drop, List.length_take]; rfl)) ?_; (with_reducible refine (tree_Deep.calls kj69 _ _ l1 t375 _ ?side1 ?side2 A110.out ?sideG_).mono ?_); (case sideG_ => (first | (with_reducible exact HG_.out) | exact HG_.out.below (by repeat (first | (with_reducible first | exact HB.out | apply below_alloc | apply pw_below_drewN | apply below_drew1) | exact HB.out)))); (case side1 => repeat (first | exact (Kd.C_below HR1.out HB.out) | (with_reducible refine Kd.C_alloc ?_ _) | (with_reducible refine Kd.C_drewN ?_ _) | (with_reducible refine Kd.C_drew ?_))); (case side2 => exact HC1.out); rintro e w137 ⟨rfl, hb⟩; refine ⟨_, rfl, ?_⟩; have n0_ := Aside0.mk (Kd.R_below (by (with_reducible repeat (first | apply Kd.R_alloc | apply Kd.R_drewN | apply Kd.R_drew)); exact HO_7.out) hb); have n1_ := Aside0.mk (Kd.R_below (by (with_reducible repeat (first | apply Kd.R_alloc | apply Kd.R_drewN | apply Kd.R_drew)); exact HO_9.out) hb); have n2_ := Aside0.mk (Kd.R_below (by (with_reducible repeat (first | apply Kd.R_alloc | apply Kd.R_drewN | apply Kd.R_drew)); exact HO_11.out) hb); have n3_ := Aside0.mk (below_step (by repeat (first | (with_reducible first | exact HB.out | apply below_alloc | apply pw_below_drewN | apply below_drew1) | exact HB.out)) hb); clear HO_7; clear HO_9; clear HO_11; clear HB; have HO_7 := n0_; have HO_9 := n1_; have HO_11 := n2_; have HB := n3_; clear n0_ n1_ n2_ n3_; (try clear hb); (try clear hb2); (try clear hk); (try clear hi); obtain ⟨Ao138, co138, eo138⟩ := Kd.R_slice HO_9.out; subst eo138) | (go_at_call 37; (with_reducible refine (tree_Deep.calls kj69 _ _ t342 t376 _ ?side1 ?side2 A113.out ?sideG_).mono ?_); (case sideG_ => (first | (with_reducible exact HG_.out) | exact HG_.out.below (by repeat (first | (with_reducible first | exact HB.out | apply below_alloc | apply pw_below_drewN | apply below_drew1) | exact HB.out)))); (case side1 => repeat (first | exact (Kd.R_reads' HO_9.out).2.2 | (with_reducible refine Kd.C_alloc ?_ _) | (with_reducible refine Kd.C_drewN ?_ _) | (with_reducible refine Kd.C_drew ?_))); (case side2 => exact (Kd.R_reads' HO_9.out).2.1); rintro e w139 ⟨rfl, hb⟩; have n0_ := Aside0.mk (Kd.R_below (by (with_reducible repeat (first | apply Kd.R_alloc | apply Kd.R_drewN | apply Kd.R_drew)); exact HO_7.out) hb); have n1_ := Aside0.mk (Kd.R_below (by (with_reducible repeat (first | apply Kd.R_alloc | apply Kd.R_drewN | apply Kd.R_drew)); exact HO_9.out) hb); have n2_ := Aside0.mk (Kd.R_below (by (with_reducible repeat (first | apply Kd.R_alloc | apply Kd.R_drewN | apply Kd.R_drew)); exact HO_11.out) hb); have n3_ := Aside0.mk (below_step (by repeat (first | (with_reducible first | exact HB.out | apply below_alloc | apply pw_below_drewN | apply below_drew1) | exact HB.out)) hb); clear HO_7; clear HO_9; clear HO_11; clear HB; have HO_7 := n0_; have HO_9 := n1_; have HO_11 := n2_; have HB := n3_; clear n0_ n1_ n2_ n3_; (try clear hb); (try clear hb2); (try clear hk); (try clear hi)) | (go_at_call 37; (with_reducible refine (tree_Deep.calls kj69 _ _ l0 t377 _ ?side1 ?side2 A114.out ?sideG_).mono ?_); (case sideG_ => (first | (with_reducible exact HG_.out) | exact HG_.out.below (by repeat (first | (with_reducible first | exact HB.out | apply below_alloc | apply pw_below_drewN | apply below_drew1) | exact HB.out)))); (case side1 => repeat (first | exact (Kd.C_below HR0.out HB.out) | (with_reducible refine Kd.C_alloc ?_ _) | (with_reducible refine Kd.C_drewN ?_ _) | (with_reducible refine Kd.C_drew ?_))); (case side2 => exact HC0.out); rintro e w140 ⟨rfl, hb⟩; have n0_ := Aside0.mk (Kd.R_below (by (with_reducible repeat (first | apply Kd.R_alloc | apply Kd.R_drewN | apply Kd.R_drew)); exact HO_7.out) hb); have n1_ := Aside0.mk (Kd.R_below (by (with_reducible repeat (first | apply Kd.R_alloc | apply Kd.R_drewN | apply Kd.R_drew)); exact HO_9.out) hb); have n2_ := Aside0.mk (Kd.R_below (by (with_reducible repeat (first | apply Kd.R_alloc | apply Kd.R_drewN | apply Kd.R_drew)); exact HO_11.out) hb); have n3_ := Aside0.mk (below_step (by repeat (first | (with_reducible first | exact HB.out | apply below_alloc | apply pw_below_drewN | apply below_drew1) | exact HB.out)) hb); clear HO_7; clear HO_9; clear HO_11; clear HB; have HO_7 := n0_; have HO_9 := n1_; have HO_11 := n2_; have HB := n3_; clear n0_ n1_ n2_ n3_; (try clear hb); (try clear hb2); (try clear hk); (try clear hi); obtain ⟨Ao141, co141, eo141⟩ := Kd.R_slice HO_11.out; subst eo141) | (go_at_call 37; (with_reducible refine (tree_Deep.calls kj69 _ _ t346 t378 _ ?side1 ?side2 A116.out ?sideG_).mono ?_); (case sideG_ => (first | (with_reducible exact HG_.out) | exact HG_.out.below (by repeat (first | (with_reducible first | exact HB.out | apply below_alloc | apply pw_below_drewN | apply below_drew1) | exact HB.out)))); (case side1 => repeat (first | exact (Kd.R_reads' HO_11.out).2.2 | (with_reducible refine Kd.C_alloc ?_ _) | (with_reducible refine Kd.C_drewN ?_ _) | (with_reducible refine Kd.C_drew ?_))); (case side2 => exact (Kd.R_reads' HO_11.out).2.1); rintro e w142 ⟨rfl, hb⟩; have n0_ := Aside0.mk (Kd.R_below (by (with_reducible repeat (first | apply Kd.R_alloc | apply Kd.R_drewN | apply Kd.R_drew)); exact HO_7.out) hb); have n1_ := Aside0.mk (Kd.R_below (by (with_reducible repeat (first | apply Kd.R_alloc | apply Kd.R_drewN | apply Kd.R_drew)); exact HO_9.out) hb); have n2_ := Aside0.mk (Kd.R_below (by (with_reducible repeat (first | apply Kd.R_alloc | apply Kd.R_drewN | apply Kd.R_drew)); exact HO_11.out) hb); have n3_ := Aside0.mk (below_step (by repeat (first | (with_reducible first | exact HB.out | apply below_alloc | apply pw_below_drewN | apply below_drew1) | exact HB.out)) hb); clear HO_7; clear HO_9; clear HO_11; clear HB; have HO_7 := n0_; have HO_9 := n1_; have HO_11 := n2_; have HB := n3_; clear n0_ n1_ n2_ n3_; (try clear hb); (try clear hb2); (try clear hk); (try clear hi)) | (go_at_call 37; (with_reducible refine (tree_Deep.calls kj69 _ _ l1 t379 _ ?side1 ?side2 A117.out ?sideG_).mono ?_); (case sideG_ => (first | (with_reducible exact HG_.out) | exact HG_.out.below (by repeat (first | (with_reducible first | exact HB.out | apply below_alloc | apply pw_below_drewN | apply below_drew1) | exact HB.out)))); (case side1 => repeat (first | exact (Kd.C_below HR1.out HB.out) | (with_reducible refine Kd.C_alloc ?_ _) | (with_reducible refine Kd.C_drewN ?_ _) | (with_reducible refine Kd.C_drew ?_))); (case side2 => exact HC1.out); rintro e w143 ⟨rfl, hb⟩; have n0_ := Aside0.mk (Kd.R_below (by (with_reducible repeat (first | apply Kd.R_alloc | apply Kd.R_drewN | apply Kd.R_drew)); exact HO_7.out) hb); have n1_ := Aside0.mk (Kd.R_below (by (with_reducible repeat (first | apply Kd.R_alloc | apply Kd.R_drewN | apply Kd.R_drew)); exact HO_9.out) hb); have n2_ := Aside0.mk (Kd.R_below (by (with_reducible repeat (first | apply Kd.R_alloc | apply Kd.R_drewN | apply Kd.R_drew)); exact HO_11.out) hb); have n3_ := Aside0.mk (below_step (by repeat (first | (with_reducible first | exact HB.out | apply below_alloc | apply pw_below_drewN | apply below_drew1) | exact HB.out)) hb); clear HO_7; clear HO_9; clear HO_11; clear HB; have HO_7 := n0_; have HO_9 := n1_; have HO_11 := n2_; have HB := n3_; clear n0_ n1_ n2_ n3_; (try clear hb); (try clear hb2); (try clear hk); (try clear hi)) | (go_at_call 37; (with_reducible refine (tree_Deep.calls kj69 _ _ l0 t380 _ ?side1 ?side2 A119.out ?sideG_).mono ?_); (case sideG_ => (first | (with_reducible exact HG_.out) | exact HG_.out.below (by repeat (first | (with_reducible first | exact HB.out | apply below_alloc | apply pw_below_drewN | apply below_drew1) | exact HB.out)))); (case side1 => repeat (first | exact (Kd.C_below HR0.out HB.out) | (with_reducible refine Kd.C_alloc ?_ _) | (with_reducible refine Kd.C_drewN ?_ _) | (with_reducible refine Kd.C_drew ?_))); (case side2 => exact HC0.out); rintro e w144 ⟨rfl, hb⟩; have n0_ := Aside0.mk (Kd.R_below (by (with_reducible repeat (first | apply Kd.R_alloc | apply Kd.R_drewN | apply Kd.R_drew)); exact HO_7.out) hb); have n1_ := Aside0.mk (Kd.R_below (by (with_reducible repeat (first | apply Kd.R_alloc | apply Kd.R_drewN | apply Kd.R_drew)); exact HO_9.out) hb); have n2_ := Aside0.mk (Kd.R_below (by (with_reducible repeat (first | apply Kd.R_alloc | apply Kd.R_drewN | apply Kd.R_drew)); exact HO_11.out) hb); have n3_ := Aside0.mk (below_step (by repeat (first | (with_reducible first | exact HB.out | apply below_alloc | apply pw_below_drewN | apply below_drew1) | exact HB.out)) hb); clear HO_7; clear HO_9; clear HO_11; clear HB; have HO_7 := n0_; have HO_9 := n1_; have HO_11 := n2_; have HB := n3_; clear n0_ n1_ n2_ n3_; (try clear hb); (try clear hb2); (try clear hk); (try clear hi)))
                            go_ret
                            exact ⟨by first | rfl | (simp [errW_none, errW_some] <;> rfl) | (simp only [← hji111]; first | rfl | (simp [errW_none, errW_some] <;> rfl)) | (simp [*, errW_none, errW_some] <;> rfl), by repeat (first | (with_reducible first | exact HB.out | apply below_alloc | apply pw_below_drewN | apply below_drew1) | exact HB.out)⟩
                        · rw [if_neg c118] at H
                          have c118b0 : (t378 == (wrap64 (1 + t379))) = false := beq_eq_false_iff_ne.mpr c118
                          have c118b1 : (t378 != (wrap64 (1 + t379))) = true := bne_iff_ne.mpr c118
                          obtain rfl := Option.some.inj H
                          obtain ⟨Ao145, co145, eo145⟩ := Kd.R_slice HO_7.out
                          subst eo145
                          go_wp2_with (first | ((with_reducible refine gate_callee (f := 37) rfl ?_); refine goesL_ (some 143) rfl rfl Tryd.func37 (by kernel_rfl) rfl #[.slice Ao145 t338.length co145] rfl (by (try simp only [List.map_toArray, List.map_cons, List.map_nil]); first | done | rfl | (simp only [List.length_drop, List.length_take]; rfl)) ?_; (with_reducible refine (tree_Deep.calls kj69 _ _ t338 t373 _ ?side1 ?side2 A108.out ?sideG_).mono ?_); (case sideG_ => (first | (with_reducible exact HG_.out) | exact HG_.out.below (by repeat (first | (with_reducible first | exact HB.out | apply below_alloc | apply pw_below_drewN | apply below_drew1) | exact HB.out)))); (case side1 => repeat (first | exact (Kd.R_reads' HO_7.out).2.2 | (with_reducible refine Kd.C_alloc ?_ _) | (with_reducible refine Kd.C_drewN ?_ _) | (with_reducible refine Kd.C_drew ?_))); (case side2 => exact (Kd.R_reads' HO_7.out).2.1); rintro e w146 ⟨rfl, hb⟩; refine ⟨_, rfl, ?_⟩; have n0_ := Aside0.mk (Kd.R_below (by (with_reducible repeat (first | apply Kd.R_alloc | apply Kd.R_drewN | apply Kd.R_drew)); exact HO_7.out) hb); have n1_ := Aside0.mk (Kd.R_below (by (with_reducible repeat (first | apply Kd.R_alloc | apply Kd.R_drewN | apply Kd.R_drew)); exact HO_9.out) hb); have n2_ := Aside0.mk (Kd.R_below (by (with_reducible repeat (first | apply Kd.R_alloc | apply Kd.R_drewN | apply Kd.R_drew)); exact HO_11.out) hb); have n3_ := Aside0.mk (below_step (by repeat (first | (with_reducible first | exact HB.out | apply below_alloc | apply pw_below_drewN | apply below_drew1) | exact HB.out)) hb); clear HO_7; clear HO_9; clear HO_11; clear HB; have HO_7 := n0_; have HO_9 := n1_; have HO_11 := n2_; have HB := n3_; clear n0_ n1_ n2_ n3_; (try clear hb); (try clear hb2); (try clear hk); (try clear hi)) | ((with_reducible refine gate_callee (f := 37) rfl ?_); refine goesL_ (some 145) rfl rfl Tryd.func37 (by kernel_rfl) rfl #[.slice A0 l0.length c0] rfl (by (try simp only [List.map_toArray, List.map_cons, List.map_nil]); first | done | rfl | (simp only [List.length_drop, List.length_take]; rfl)) ?_; (with_reducible refine (tree_Deep.calls kj69 _ _ l0 t374 _ ?side1 ?side2 A109.out ?sideG_).mono ?_); (case sideG_ => (first | (with_reducible exact HG_.out) | exact HG_.out.below (by repeat (first | (with_reducible first | exact HB.out | apply below_alloc | apply pw_below_drewN | apply below_drew1) | exact HB.out)))); (case side1 => repeat (first | exact (Kd.C_below HR0.out HB.out) | (with_reducible refine Kd.C_alloc ?_ _) | (with_reducible refine Kd.C_drewN ?_ _) | (with_reducible refine Kd.C_drew ?_))); (case side2 => exact HC0.out); rintro e w147 ⟨rfl, hb⟩; refine ⟨_, rfl, ?_⟩; have n0_ := Aside0.mk (Kd.R_below (by (with_reducible repeat (first | apply Kd.R_alloc | apply Kd.R_drewN | apply Kd.R_drew)); exact HO_7.out) hb); have n1_ := Aside0.mk (Kd.R_below (by (with_reducible repeat (first | apply Kd.R_alloc | apply Kd.R_drewN | apply Kd.R_drew)); exact HO_9.out) hb); have n2_ := Aside0.mk (Kd.R_below (by (with_reducible repeat (first | apply Kd.R_alloc | apply Kd.R_drewN | apply Kd.R_drew)); exact HO_11.out) hb); have n3_ := Aside0.mk (below_step (by repeat (first | (with_reducible first | exact HB.out | apply below_alloc | apply pw_below_drewN | apply below_drew1) | exact HB.out)) hb); clear HO_7; clear HO_9; clear HO_11; clear HB; have HO_7 := n0_; have HO_9 := n1_; have HO_11 := n2_; have HB := n3_; clear n0_ n1_ n2_ n3_; (try clear hb); (try clear hb2); (try clear hk); (try clear hi)) | ((with_reducible refine gate_callee (f := 37) rfl ?_); refine goesL_ (some 147) rfl rfl Tryd.func37 (by kernel_rfl) rfl #[.slice A1 l1.length c1] rfl (by (try simp only [List.map_toArray, List.map_cons, List.map_nil]); first | done | rfl | (simp only [List.length_drop, List.length_take]; rfl)) ?_; (with_reducible refine (tree_Deep.calls kj69 _ _ l1 t375 _ ?side1 ?side2 A110.out ?sideG_).mono ?_); (case sideG_ => (first | (with_reducible exact HG_.out) | exact HG_.out.below (by repeat (first | (with_reducible first | exact HB.out | apply below_alloc | apply pw_below_drewN | apply below_drew1) | exact HB.out)))); (case side1 => repeat (first | exact (Kd.C_below HR1.out HB.out) | (with_reducible refine Kd.C_alloc ?_ _) | (with_reducible refine Kd.C_drewN ?_ _) | (with_reducible refine Kd.C_drew ?_))); (case side2 => exact HC1.out); rintro e w148 ⟨rfl, hb⟩; refine ⟨_, rfl, ?_⟩; have n0_ := Aside0.mk (Kd.R_below (by (with_reducible repeat (first | apply Kd.R_alloc | apply Kd.R_drewN | apply Kd.R_drew)); exact HO_7.out) hb); have n1_ := Aside0.mk (Kd.R_below (by (with_reducible repeat (first | apply Kd.R_alloc | apply Kd.R_drewN | apply Kd.R_drew)); exact HO_9.out) hb); have n2_ := Aside0.mk (Kd.R_below (by (with_reducible repeat (first | apply Kd.R_alloc | apply Kd.R_drewN | apply Kd.R_drew)); exact HO_11.out) hb); have n3_ := Aside0.mk (below_step (by repeat (first | (with_reducible first | exact HB.out | apply below_alloc | apply pw_below_drewN | apply below_drew1) | exact HB.out)) hb); clear HO_7; clear HO_9; clear HO_11; clear HB; have HO_7 := n0_; have HO_9 := n1_; have HO_11 := n2_; have HB := n3_; clear n0_ n1_ n2_ n3_; (try clear hb); (try clear hb2); (try clear hk); (try clear hi); obtain ⟨Ao149, co149, eo149⟩ := Kd.R_slice HO_9.out; subst eo149) | (go_at_call 37; (with_reducible refine (tree_Deep.calls kj69 _ _ t342 t376 _ ?side1 ?side2 A113.out ?sideG_).mono ?_); (case sideG_ => (first | (with_reducible exact HG_.out) | exact HG_.out.below (by repeat (first | (with_reducible first | exact HB.out | apply below_alloc | apply pw_below_drewN | apply below_drew1) | exact HB.out)))); (case side1 => repeat (first | exact (Kd.R_reads' HO_9.out).2.2 | (with_reducible refine Kd.C_alloc ?_ _) | (with_reducible refine Kd.C_drewN ?_ _) | (with_reducible refine Kd.C_drew ?_))); (case side2 => exact (Kd.R_reads' HO_9.out).2.1); rintro e w150 ⟨rfl, hb⟩; have n0_ := Aside0.mk (Kd.R_below (by (with_reducible repeat (first | apply Kd.R_alloc | apply Kd.R_drewN | apply Kd.R_drew)); exact HO_7.out) hb); have n1_ := Aside0.mk (Kd.R_below (by (with_reducible repeat (first | apply Kd.R_alloc | apply Kd.R_drewN | apply Kd.R_drew)); exact HO_9.out) hb); have n2_ := Aside0.mk (Kd.R_below (by (with_reducible repeat (first | apply Kd.R_alloc | apply Kd.R_drewN | apply Kd.R_drew)); exact HO_11.out) hb); have n3_ := Aside0.mk (below_step (by repeat (first | (with_reducible first | exact HB.out | apply below_alloc | apply pw_below_drewN | apply below_drew1) | exact HB.out)) hb); clear HO_7; clear HO_9; clear HO_11; clear HB; have HO_7 := n0_; have HO_9 := n1_; have HO_11 := n2_; have HB := n3_; clear n0_ n1_ n2_ n3_; (try clear hb); (try clear hb2); (try clear hk); (try clear hi)) | (go_at_call 37; (with_reducible refine (tree_Deep.calls kj69 _ _ l0 t377 _ ?side1 ?side2 A114.out ?sideG_).mono ?_); (case sideG_ => (first | (with_reducible exact HG_.out) | exact HG_.out.below (by repeat (first | (with_reducible first | exact HB.out | apply below_alloc | apply pw_below_drewN | apply below_drew1) | exact HB.out)))); (case side1 => repeat (first | exact (Kd.C_below HR0.out HB.out) | (with_reducible refine Kd.C_alloc ?_ _) | (with_reducible refine Kd.C_drewN ?_ _) | (with_reducible refine Kd.C_drew ?_))); (case side2 => exact HC0.out); rintro e w151 ⟨rfl, hb⟩; have n0_ := Aside0.mk (Kd.R_below (by (with_reducible repeat (first | apply Kd.R_alloc | apply Kd.R_drewN | apply Kd.R_drew)); exact HO_7.out) hb); have n1_ := Aside0.mk (Kd.R_below (by (with_reducible repeat (first | apply Kd.R_alloc | apply Kd.R_drewN | apply Kd.R_drew)); exact HO_9.out) hb); have n2_ := Aside0.mk (Kd.R_below (by (with_reducible repeat (first | apply Kd.R_alloc | apply Kd.R_drewN | apply Kd.R_drew)); exact HO_11.out) hb); have n3_ := Aside0.mk (below_step (by repeat (first | (with_reducible first | exact HB.out | apply below_alloc | apply pw_below_drewN | apply below_drew1) | exact HB.out)) hb); clear HO_7; clear HO_9; clear HO_11; clear HB; have HO_7 := n0_; have HO_9 := n1_; have HO_11 := n2_; have HB := n3_; clear n0_ n1_ n2_ n3_; (try clear hb); (try clear hb2); (try clear hk); (try clear hi); obtain ⟨Ao152, co152, eo152⟩ := Kd.R_slice HO_11.out; subst eo152) | (go_at_call 37; (with_reducible refine (tree_Deep.calls kj69 _ _ t346 t378 _ ?side1 ?side2 A116.out ?sideG_).mono ?_); (case sideG_ => (first | (with_reducible exact HG_.out) | exact HG_.out.below (by repeat (first | (with_reducible first | exact HB.out | apply below_alloc | apply pw_below_drewN | apply below_drew1) | exact HB.out)))); (case side1 => repeat (first | exact (Kd.R_reads' HO_11.out).2.2 | (with_reducible refine Kd.C_alloc ?_ _) | (with_reducible refine Kd.C_drewN ?_ _) | (with_reducible refine Kd.C_drew ?_))); (case side2 => exact (Kd.R_reads' HO_11.out).2.1); rintro e w153 ⟨rfl, hb⟩; have n0_ := Aside0.mk (Kd.R_below (by (with_reducible repeat (first | apply Kd.R_alloc | apply Kd.R_drewN | apply Kd.R_drew)); exact HO_7.out) hb); have n1_ := Aside0.mk (Kd.R_below (by (with_reducible repeat (first | apply Kd.R_alloc | apply Kd.R_drewN | apply Kd.R_drew)); exact HO_9.out) hb); have n2_ := Aside0.mk (Kd.R_below (by (with_reducible repeat (first | apply Kd.R_alloc | apply Kd.R_drewN | apply Kd.R_drew)); exact HO_11.out) hb); have n3_ := Aside0.mk (below_step (by repeat (first | (with_reducible first | exact HB.out | apply below_alloc | apply pw_below_drewN | apply below_drew1) | exact HB.out)) hb); clear HO_7; clear HO_9; clear HO_11; clear HB; have HO_7 := n0_; have HO_9 := n1_; have HO_11 := n2_; have HB := n3_; clear n0_ n1_ n2_ n3_; (try clear hb); (try clear hb2); (try clear hk); (try clear hi)) | (go_at_call 37; (with_reducible refine (tree_Deep.calls kj69 _ _ l1 t379 _ ?side1 ?side2 A117.out ?sideG_).mono ?_); (case sideG_ => (first | (with_reducible exact HG_.out) | exact HG_.out.below (by repeat (first | (with_reducible first | exact HB.out | apply below_alloc | apply pw_below_drewN | apply below_drew1) | exact HB.out)))); (case side1 => repeat (first | exact (Kd.C_below HR1.out HB.out) | (with_reducible refine Kd.C_alloc ?_ _) | (with_reducible refine Kd.C_drewN ?_ _) | (with_reducible refine Kd.C_drew ?_))); (case side2 => exact HC1.out); rintro e w154 ⟨rfl, hb⟩; have n0_ := Aside0.mk (Kd.R_below (by (with_reducible repeat (first | apply Kd.R_alloc | apply Kd.R_drewN | apply Kd.R_drew)); exact HO_7.out) hb); have n1_ := Aside0.mk (Kd.R_below (by (with_reducible repeat (first | apply Kd.R_alloc | apply Kd.R_drewN | apply Kd.R_drew)); exact HO_9.out) hb); have n2_ := Aside0.mk (Kd.R_below (by (with_reducible repeat (first | apply Kd.R_alloc | apply Kd.R_drewN | apply Kd.R_drew)); exact HO_11.out) hb); have n3_ := Aside0.mk (below_step (by repeat (first | (with_reducible first | exact HB.out | apply below_alloc | apply pw_below_drewN | apply below_drew1) | exact HB.out)) hb); clear HO_7; clear HO_9; clear HO_11; clear HB; have HO_7 := n0_; have HO_9 := n1_; have HO_11 := n2_; have HB := n3_; clear n0_ n1_ n2_ n3_; (try clear hb); (try clear hb2); (try clear hk); (try clear hi)))
                          go_ret
                          exact ⟨by first | rfl | (simp [errW_none, errW_some] <;> rfl) | (simp only [← hji111]; first | rfl | (simp [errW_none, errW_some] <;> rfl)) | (simp [*, errW_none, errW_some] <;> rfl), by repeat (first | (with_reducible first | exact HB.out | apply below_alloc | apply pw_below_drewN | apply below_drew1) | exact HB.out)⟩
                      · rw [if_neg c115] at H
                        have c115b0 : (t376 == (wrap64 (1 + t377))) = false := beq_eq_false_iff_ne.mpr c115
                        have c115b1 : (t376 != (wrap64 (1 + t377))) = true := bne_iff_ne.mpr c115
                        obtain rfl := Option.some.inj H
                        obtain ⟨Ao155, co155, eo155⟩ := Kd.R_slice HO_7.out
                        subst eo155
                        go_wp2_with (first | ((with_reducible refine gate_callee (f := 37) rfl ?_); refine goesL_ (some 143) rfl rfl Tryd.func37 (by kernel_rfl) rfl #[.slice Ao155 t338.length co155] rfl (by (try simp only [List.map_toArray, List.map_cons, List.map_nil]); first | done | rfl | (simp only [List.length_drop, List.length_take]; rfl)) ?_; (with_reducible refine (tree_Deep.calls kj69 _ _ t338 t373 _ ?side1 ?side2 A108.out ?sideG_).mono ?_); (case sideG_ => (first | (with_reducible exact HG_.out) | exact HG_.out.below (by repeat (first | (with_reducible first | exact HB.out | apply below_alloc | apply pw_below_drewN | apply below_drew1) | exact HB.out)))); (case side1 => repeat (first | exact (Kd.R_reads' HO_7.out).2.2 | (with_reducible refine Kd.C_alloc ?_ _) | (with_reducible refine Kd.C_drewN ?_ _) | (with_reducible refine Kd.C_drew ?_))); (case side2 => exact (Kd.R_reads' HO_7.out).2.1); rintro e w156 ⟨rfl, hb⟩; refine ⟨_, rfl, ?_⟩; have n0_ := Aside0.mk (Kd.R_below (by (with_reducible repeat (first | apply Kd.R_alloc | apply Kd.R_drewN | apply Kd.R_drew)); exact HO_7.out) hb); have n1_ := Aside0.mk (Kd.R_below (by (with_reducible repeat (first | apply Kd.R_alloc | apply Kd.R_drewN | apply Kd.R_drew)); exact HO_9.out) hb); have n2_ := Aside0.mk (Kd.R_below (by (with_reducible repeat (first | apply Kd.R_alloc | apply Kd.R_drewN | apply Kd.R_drew)); exact HO_11.out) hb); have n3_ := Aside0.mk (below_step (by repeat (first | (with_reducible first | exact HB.out | apply below_alloc | apply pw_below_drewN | apply below_drew1) | exact HB.out)) hb); clear HO_7; clear HO_9; clear HO_11; clear HB; have HO_7 := n0_; have HO_9 := n1_; have HO_11 := n2_; have HB := n3_; clear n0_ n1_ n2_ n3_; (try clear hb); (try clear hb2); (try clear hk); (try clear hi)) | ((with_reducible refine gate_callee (f := 37) rfl ?_); refine goesL_ (some 145) rfl rfl Tryd.func37 (by kernel_rfl) rfl #[.slice A0 l0.length c0] rfl (by (try simp only [List.map_toArray, List.map_cons, List.map_nil]); first | done | rfl | (simp only [List.length_drop, List.length_take]; rfl)) ?_; (with_reducible refine (tree_Deep.calls kj69 _ _ l0 t374 _ ?side1 ?side2 A109.out ?sideG_).mono ?_); (case sideG_ => (first | (with_reducible exact HG_.out) | exact HG_.out.below (by repeat (first | (with_reducible first | exact HB.out | apply below_alloc | apply pw_below_drewN | apply below_drew1) | exact HB.out)))); (case side1 => repeat (first | exact (Kd.C_below HR0.out HB.out) | (with_reducible refine Kd.C_alloc ?_ _) | (with_reducible refine Kd.C_drewN ?_ _) | (with_reducible refine Kd.C_drew ?_))); (case side2 => exact HC0.out); rintro e w157 ⟨rfl, hb⟩; refine ⟨_, rfl, ?_⟩; have n0_ := Aside0.mk (Kd.R_below (by (with_reducible repeat (first | apply Kd.R_alloc | apply Kd.R_drewN | apply Kd.R_drew)); exact HO_7.out) hb); have n1_ := Aside0.mk (Kd.R_below (by (with_reducible repeat (first | apply Kd.R_alloc | apply Kd.R_drewN | apply Kd.R_drew)); exact HO_9.out) hb); have n2_ := Aside0.mk (Kd.R_below (by (with_reducible repeat (first | apply Kd.R_alloc | apply Kd.R_drewN | apply Kd.R_drew)); exact HO_11.out) hb); have n3_ := Aside0.mk (below_step (by repeat (first | (with_reducible first | exact HB.out | apply below_alloc | apply pw_below_drewN | apply below_drew1) | exact HB.out)) hb); clear HO_7; clear HO_9; clear HO_11; clear HB; have HO_7 := n0_; have HO_9 := n1_; have HO_11 := n2_; have HB := n3_; clear n0_ n1_ n2_ n3_; (try clear hb); (try clear hb2); (try clear hk); (try clear hi)) | ((with_reducible refine gate_callee (f := 37) rfl ?_); refine goesL_ (some 147) rfl rfl Tryd.func37 (by kernel_rfl) rfl #[.slice A1 l1.length c1] rfl (by (try simp only [List.map_toArray, List.map_cons, List.map_nil]); first | done | rfl | (simp only [List.length_drop, List.length_take]; rfl)) ?_; (with_reducible refine (tree_Deep.calls kj69 _ _ l1 t375 _ ?side1 ?side2 A110.out ?sideG_).mono ?_); (case sideG_ => (first | (with_reducible exact HG_.out) | exact HG_.out.below (by repeat (first | (with_reducible first | exact HB.out | apply below_alloc | apply pw_below_drewN | apply below_drew1) | exact HB.out)))); (case side1 => repeat (first | exact (Kd.C_below HR1.out HB.out) | (with_reducible refine Kd.C_alloc ?_ _) | (with_reducible refine Kd.C_drewN ?_ _) | (with_reducible refine Kd.C_drew ?_))); (case side2 => exact HC1.out); rintro e w158 ⟨rfl, hb⟩; refine ⟨_, rfl, ?_⟩; have n0_ := Aside0.mk (Kd.R_below (by (with_reducible repeat (first | apply Kd.R_alloc | apply Kd.R_drewN | apply Kd.R_drew)); exact HO_7.out) hb); have n1_ := Aside0.mk (Kd.R_below (by (with_reducible repeat (first | apply Kd.R_alloc | apply Kd.R_drewN | apply Kd.R_drew)); exact HO_9.out) hb); have n2_ := Aside0.mk (Kd.R_below (by (with_reducible repeat (first | apply Kd.R_alloc | apply Kd.R_drewN | apply Kd.R_drew)); exact HO_11.out) hb); have n3_ := Aside0.mk (below_step (by repeat (first | (with_reducible first | exact HB.out | apply below_alloc | apply pw_below_drewN | apply below_drew1) | exact HB.out)) hb); clear HO_7; clear HO_9; clear HO_11; clear HB; have HO_7 := n0_; have HO_9 := n1_; have HO_11 := n2_; have HB := n3_; clear n0_ n1_ n2_ n3_; (try clear hb); (try clear hb2); (try clear hk); (try clear hi); obtain ⟨Ao159, co159, eo159⟩ := Kd.R_slice HO_9.out; subst eo159) | (go_at_call 37; (with_reducible refine (tree_Deep.calls kj69 _ _ t342 t376 _ ?side1 ?side2 A113.out ?sideG_).mono ?_); (case sideG_ => (first | (with_reducible exact HG_.out) | exact HG_.out.below (by repeat (first | (with_reducible first | exact HB.out | apply below_alloc | apply pw_below_drewN | apply below_drew1) | exact HB.out)))); (case side1 => repeat (first | exact (Kd.R_reads' HO_9.out).2.2 | (with_reducible refine Kd.C_alloc ?_ _) | (with_reducible refine Kd.C_drewN ?_ _) | (with_reducible refine Kd.C_drew ?_))); (case side2 => exact (Kd.R_reads' HO_9.out).2.1); rintro e w160 ⟨rfl, hb⟩; have n0_ := Aside0.mk (Kd.R_below (by (with_reducible repeat (first | apply Kd.R_alloc | apply Kd.R_drewN | apply Kd.R_drew)); exact HO_7.out) hb); have n1_ := Aside0.mk (Kd.R_below (by (with_reducible repeat (first | apply Kd.R_alloc | apply Kd.R_drewN | apply Kd.R_drew)); exact HO_9.out) hb); have n2_ := Aside0.mk (Kd.R_below (by (with_reducible repeat (first | apply Kd.R_alloc | apply Kd.R_drewN | apply Kd.R_drew)); exact HO_11.out) hb); have n3_ := Aside0.mk (below_step (by repeat (first | (with_reducible first | exact HB.out | apply below_alloc | apply pw_below_drewN | apply below_drew1) | exact HB.out)) hb); clear HO_7; clear HO_9; clear HO_11; clear HB; have HO_7 := n0_; have HO_9 := n1_; have HO_11 := n2_; have HB := n3_; clear n0_ n1_ n2_ n3_; (try clear hb); (try clear hb2); (try clear hk); (try clear hi)) | (go_at_call 37; (with_reducible refine (tree_Deep.calls kj69 _ _ l0 t377 _ ?side1 ?side2 A114.out ?sideG_).mono ?_); (case sideG_ => (first | (with_reducible exact HG_.out) | exact HG_.out.below (by repeat (first | (with_reducible first | exact HB.out | apply below_alloc | apply pw_below_drewN | apply below_drew1) | exact HB.out)))); (case side1 => repeat (first | exact (Kd.C_below HR0.out HB.out) | (with_reducible refine Kd.C_alloc ?_ _) | (with_reducible refine Kd.C_drewN ?_ _) | (with_reducible refine Kd.C_drew ?_))); (case side2 => exact HC0.out); rintro e w161 ⟨rfl, hb⟩; have n0_ := Aside0.mk (Kd.R_below (by (with_reducible repeat (first | apply Kd.R_alloc | apply Kd.R_drewN | apply Kd.R_drew)); exact HO_7.out) hb); have n1_ := Aside0.mk (Kd.R_below (by (with_reducible repeat (first | apply Kd.R_alloc | apply Kd.R_drewN | apply Kd.R_drew)); exact HO_9.out) hb); have n2_ := Aside0.mk (Kd.R_below (by (with_reducible repeat (first | apply Kd.R_alloc | apply Kd.R_drewN | apply Kd.R_drew)); exact HO_11.out) hb); have n3_ := Aside0.mk (below_step (by repeat (first | (with_reducible first | exact HB.out | apply below_alloc | apply pw_below_drewN | apply below_drew1) | exact HB.out)) hb); clear HO_7; clear HO_9; clear HO_11; clear HB; have HO_7 := n0_; have HO_9 := n1_; have HO_11 := n2_; have HB := n3_; clear n0_ n1_ n2_ n3_; (try clear hb); (try clear hb2); (try clear hk); (try clear hi)))
                        go_ret
                        exact ⟨by first | rfl | (simp [errW_none, errW_some] <;> rfl) | (simp only [← hji111]; first | rfl | (simp [errW_none, errW_some] <;> rfl)) | (simp [*, errW_none, errW_some] <;> rfl), by repeat (first | (with_reducible first | exact HB.out | apply below_alloc | apply pw_below_drewN | apply below_drew1) | exact HB.out)⟩
                    · rw [if_neg c112] at H
                      have c112b0 : (t373 == (wrap64 (1 + (ji111)))) = false := beq_eq_false_iff_ne.mpr c112
                      have c112b1 : (t373 != (wrap64 (1 + (ji111)))) = true := bne_iff_ne.mpr c112
                      obtain rfl := Option.some.inj H
                      obtain ⟨Ao162, co162, eo162⟩ := Kd.R_slice HO_7.out
                      subst eo162
                      go_wp2_with (first | ((with_reducible refine gate_callee (f := 37) rfl ?_); refine goesL_ (some 143) rfl rfl Tryd.func37 (by kernel_rfl) rfl #[.slice Ao162 t338.length co162] rfl (by (try simp only [List.map_toArray, List.map_cons, List.map_nil]); first | done | rfl | (simp only [List.length_drop, List.length_take]; rfl)) ?_; (with_reducible refine (tree_Deep.calls kj69 _ _ t338 t373 _ ?side1 ?side2 A108.out ?sideG_).mono ?_); (case sideG_ => (first | (with_reducible exact HG_.out) | exact HG_.out.below (by repeat (first | (with_reducible first | exact HB.out | apply below_alloc | apply pw_below_drewN | apply below_drew1) | exact HB.out)))); (case side1 => repeat (first | exact (Kd.R_reads' HO_7.out).2.2 | (with_reducible refine Kd.C_alloc ?_ _) | (with_reducible refine Kd.C_drewN ?_ _) | (with_reducible refine Kd.C_drew ?_))); (case side2 => exact (Kd.R_reads' HO_7.out).2.1); rintro e w163 ⟨rfl, hb⟩; refine ⟨_, rfl, ?_⟩; have n0_ := Aside0.mk (Kd.R_below (by (with_reducible repeat (first | apply Kd.R_alloc | apply Kd.R_drewN | apply Kd.R_drew)); exact HO_7.out) hb); have n1_ := Aside0.mk (Kd.R_below (by (with_reducible repeat (first | apply Kd.R_alloc | apply Kd.R_drewN | apply Kd.R_drew)); exact HO_9.out) hb); have n2_ := Aside0.mk (Kd.R_below (by (with_reducible repeat (first | apply Kd.R_alloc | apply Kd.R_drewN | apply Kd.R_drew)); exact HO_11.out) hb); have n3_ := Aside0.mk (below_step (by repeat (first | (with_reducible first | exact HB.out | apply below_alloc | apply pw_below_drewN | apply below_drew1) | exact HB.out)) hb); clear HO_7; clear HO_9; clear HO_11; clear HB; have HO_7 := n0_; have HO_9 := n1_; have HO_11 := n2_; have HB := n3_; clear n0_ n1_ n2_ n3_; (try clear hb); (try clear hb2); (try clear hk); (try clear hi)) | ((with_reducible refine gate_callee (f := 37) rfl ?_); refine goesL_ (some 145) rfl rfl Tryd.func37 (by kernel_rfl) rfl #[.slice A0 l0.length c0] rfl (by (try simp only [List.map_toArray, List.map_cons, List.map_nil]); first | done | rfl | (simp only [List.length_drop, List.length_take]; rfl)) ?_; (with_reducible refine (tree_Deep.calls kj69 _ _ l0 t374 _ ?side1 ?side2 A109.out ?sideG_).mono ?_); (case sideG_ => (first | (with_reducible exact HG_.out) | exact HG_.out.below (by repeat (first | (with_reducible first | exact HB.out | apply below_alloc | apply pw_below_drewN | apply below_drew1) | exact HB.out)))); (case side1 => repeat (first | exact (Kd.C_below HR0.out HB.out) | (with_reducible refine Kd.C_alloc ?_ _) | (with_reducible refine Kd.C_drewN ?_ _) | (with_reducible refine Kd.C_drew ?_))); (case side2 => exact HC0.out); rintro e w164 ⟨rfl, hb⟩; refine ⟨_, rfl, ?_⟩; have n0_ := Aside0.mk (Kd.R_below (by (with_reducible repeat (first | apply Kd.R_alloc | apply Kd.R_drewN | apply Kd.R_drew)); exact HO_7.out) hb); have n1_ := Aside0.mk (Kd.R_below (by (with_reducible repeat (first | apply Kd.R_alloc | apply Kd.R_drewN | apply Kd.R_drew)); exact HO_9.out) hb); have n2_ := Aside0.mk (Kd.R_below (by (with_reducible repeat (first | apply Kd.R_alloc | apply Kd.R_drewN | apply Kd.R_drew)); exact HO_11.out) hb); have n3_ := Aside0.mk (below_step (by repeat (first | (with_reducible first | exact HB.out | apply below_alloc | apply pw_below_drewN | apply below_drew1) | exact HB.out)) hb); clear HO_7; clear HO_9; clear HO_11; clear HB; have HO_7 := n0_; have HO_9 := n1_; have HO_11 := n2_; have HB := n3_; clear n0_ n1_ n2_ n3_; (try clear hb); (try clear hb2); (try clear hk); (try clear hi)) | ((with_reducible refine gate_callee (f := 37) rfl ?_); refine goesL_ (some 147) rfl rfl Tryd.func37 (by kernel_rfl) rfl #[.slice A1 l1.length c1] rfl (by (try simp only [List.map_toArray, List.map_cons, List.map_nil]); first | done | rfl | (simp only [List.length_drop, List.length_take]; rfl)) ?_; (with_reducible refine (tree_Deep.calls kj69 _ _ l1 t375 _ ?side1 ?side2 A110.out ?sideG_).mono ?_); (case sideG_ => (first | (with_reducible exact HG_.out) | exact HG_.out.below (by repeat (first | (with_reducible first | exact HB.out | apply below_alloc | apply pw_below_drewN | apply below_drew1) | exact HB.out)))); (case side1 => repeat (first | exact (Kd.C_below HR1.out HB.out) | (with_reducible refine Kd.C_alloc ?_ _) | (with_reducible refine Kd.C_drewN ?_ _) | (with_reducible refine Kd.C_drew ?_))); (case side2 => exact HC1.out); rintro e w165 ⟨rfl, hb⟩; refine ⟨_, rfl, ?_⟩; have n0_ := Aside0.mk (Kd.R_below (by (with_reducible repeat (first | apply Kd.R_alloc | apply Kd.R_drewN | apply Kd.R_drew)); exact HO_7.out) hb); have n1_ := Aside0.mk (Kd.R_below (by (with_reducible repeat (first | apply Kd.R_alloc | apply Kd.R_drewN | apply Kd.R_drew)); exact HO_9.out) hb); have n2_ := Aside0.mk (Kd.R_below (by (with_reducible repeat (first | apply Kd.R_alloc | apply Kd.R_drewN | apply Kd.R_drew)); exact HO_11.out) hb); have n3_ := Aside0.mk (below_step (by repeat (first | (with_reducible first | exact HB.out | apply below_alloc | apply pw_below_drewN | apply below_drew1) | exact HB.out)) hb); clear HO_7; clear HO_9; clear HO_11; clear HB; have HO_7 := n0_; have HO_9 := n1_; have HO_11 := n2_; have HB := n3_; clear n0_ n1_ n2_ n3_; (try clear hb); (try clear hb2); (try clear hk); (try clear hi)))
                      go_ret
                      exact ⟨by first | rfl | (simp [errW_none, errW_some] <;> rfl) | (simp only [← hji111]; first | rfl | (simp [errW_none, errW_some] <;> rfl)) | (simp [*, errW_none, errW_some] <;> rfl), by repeat (first | (with_reducible first | exact HB.out | apply below_alloc | apply pw_below_drewN | apply below_drew1) | exact HB.out)⟩
end Go.Proofs.YtcajdkncohcaeaaDoor.GTree
