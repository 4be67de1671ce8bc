import Derived.Test.YtcajdkncohcaeaaDoorVGTree0
import Derived.Test.YtcajdkncohcaeaaDoorVGTree2
import Derived.Test.YtcajdkncohcaeaaDoorVGTree4
import Derived.Test.YtcajdkncohcaeaaDoorVGTree5
namespace Go.Proofs.YtcajdkncohcaeaaDoor.GTree
open Go.RowKit Go.Proofs.YtcajdkncohcaeaaDoorW.PrintWords Go.Proofs.YtcajdkncohcaeaaDoorW.PrintLast Go.Proofs.YtcajdkncohcaeaaDoorW.PrintMore
attribute [local go_sem] max2_int min2_int max_two min_two max_three min_three max_four min_four   -- for this text's walks alone
set_option linter.unusedVariables false
set_option linter.unusedSimpArgs false
mutual
def steelyardlaw14_TreeLeaves.j0 : Nat → List (S52) → Bool → Option (Bool)
  | 0, _, _ => none
  | k + 1, x0, x14 => if x14 = true then ((steelyardlaw14_wakes.f).bind fun t411 => (some t411)) else (if 0 ≤ (x0.length : Int) then (if ((x0.length : Int) : Int).toNat ≤ 35184372088832 then (steelyardlaw14_TreeLeaves.l0 k x0 0 0 (List.replicate ((x0.length : Int) : Int).toNat 0) 0) else (none)) else (none))
def steelyardlaw14_TreeLeaves.l0 : Nat → List (S52) → Int → Int → List Int → Int → Option (Bool)
  | 0, _, _, _, _, _ => none
  | k + 1, x0, x3, x4, x5, x6 => if x6 < (x0.length : Int) then (if 0 ≤ x6 then (if ((rd_T52 x0 x6).f0) = 1 then (steelyardlaw14_TreeLeaves.j2 k x0 x3 x4 x5 x6 true) else (steelyardlaw14_TreeLeaves.j2 k x0 x3 x4 x5 x6 (((rd_T52 x0 x6).f0) == 2))) else (none)) else (steelyardlaw14_TreeLeaves.l1 k x0 x3 x4 x5 0)
def steelyardlaw14_TreeLeaves.j2 : Nat → List (S52) → Int → Int → List Int → Int → Bool → Option (Bool)
  | 0, _, _, _, _, _, _ => none
  | k + 1, x0, x3, x4, x5, x6, x35 => if x35 = true then (steelyardlaw14_TreeLeaves.l0 k x0 (wrap64 (x3 + 1)) x4 x5 (wrap64 (x6 + 1))) else (if 0 ≤ x6 then (if x6 < (x0.length : Int) then ((steelyardref14_Two.f ((rd_T52 x0 x6).f0)).bind fun t418 => (if t418 = true then (if 0 ≤ ((rd_T52 x0 x6).f1) then (if ((rd_T52 x0 x6).f1) < (x5.length : Int) then ((some (x5.set (((rd_T52 x0 x6).f1) : Int).toNat (wrap64 ((rd x5 ((rd_T52 x0 x6).f1)) + 1)) : List Int)).bind fun y421 => (if 0 ≤ ((rd_T52 x0 x6).f2) then (if ((rd_T52 x0 x6).f2) < (x5.length : Int) then (steelyardlaw14_TreeLeaves.l0 k x0 x3 (wrap64 (x4 + 1)) (y421.set (((rd_T52 x0 x6).f2) : Int).toNat (wrap64 ((rd y421 ((rd_T52 x0 x6).f2)) + 1))) (wrap64 (x6 + 1))) else (none)) else (none))) else (none)) else (none)) else (if 0 ≤ ((rd_T52 x0 x6).f1) then (if ((rd_T52 x0 x6).f1) < (x5.length : Int) then (steelyardlaw14_TreeLeaves.l0 k x0 x3 x4 (x5.set (((rd_T52 x0 x6).f1) : Int).toNat (wrap64 ((rd x5 ((rd_T52 x0 x6).f1)) + 1))) (wrap64 (x6 + 1))) else (none)) else (none)))) else (none)) else (none))
def steelyardlaw14_TreeLeaves.l1 : Nat → List (S52) → Int → Int → List Int → Int → Option (Bool)
  | 0, _, _, _, _, _ => none
  | k + 1, x0, x3, x4, x5, x7 => if x7 < (x5.length : Int) then (if 0 ≤ x7 then (if (((rd x5 x7) == 1) != (decide ((wrap64 (x7 + 1)) < (x0.length : Int)))) = true then (some false) else (if (rd x5 x7) > 1 then (some false) else (steelyardlaw14_TreeLeaves.l1 k x0 x3 x4 x5 (wrap64 (x7 + 1))))) else (none)) else (if x3 = (wrap64 (x4 + 1)) then ((tree_Deep.f k x0).bind fun t430 => (if t430 ≤ (x0.length : Int) then ((steelyardlaw14_wakes.f).bind fun t431 => (some t431)) else (some false))) else (some false))
end
def steelyardlaw14_TreeLeaves.f (k : Nat) (l0 : List (S52)) : Option (Bool) := (steelyardkeep_LargeTree.f k l0).bind fun t409 => (if t409 = true then (steelyardlaw14_TreeLeaves.j0 k l0 true) else ((steelyardref14_Good.f l0).bind fun t410 => (steelyardlaw14_TreeLeaves.j0 k l0 (!t410))))
theorem steelyardlaw14_TreeLeaves.mono_l : ∀ k, (∀ y0 y1, LeO (steelyardlaw14_TreeLeaves.j0 k y0 y1) (steelyardlaw14_TreeLeaves.j0 (k + 1) y0 y1)) ∧ (∀ y0 y1 y2 y3 y4, LeO (steelyardlaw14_TreeLeaves.l0 k y0 y1 y2 y3 y4) (steelyardlaw14_TreeLeaves.l0 (k + 1) y0 y1 y2 y3 y4)) ∧ (∀ y0 y1 y2 y3 y4 y5, LeO (steelyardlaw14_TreeLeaves.j2 k y0 y1 y2 y3 y4 y5) (steelyardlaw14_TreeLeaves.j2 (k + 1) y0 y1 y2 y3 y4 y5)) ∧ (∀ y0 y1 y2 y3 y4, LeO (steelyardlaw14_TreeLeaves.l1 k y0 y1 y2 y3 y4) (steelyardlaw14_TreeLeaves.l1 (k + 1) y0 y1 y2 y3 y4))
  | 0 => ⟨fun _ _ r h => by simp [steelyardlaw14_TreeLeaves.j0] at h, fun _ _ _ _ _ r h => by simp [steelyardlaw14_TreeLeaves.l0] at h, fun _ _ _ _ _ _ r h => by simp [steelyardlaw14_TreeLeaves.j2] at h, fun _ _ _ _ _ r h => by simp [steelyardlaw14_TreeLeaves.l1] at h⟩
  | k + 1 => by
    obtain ⟨ih0, ih1, ih2, ih3⟩ := steelyardlaw14_TreeLeaves.mono_l k
    refine ⟨?_, ?_, ?_, ?_⟩
    · intro y0 y1
      unfold steelyardlaw14_TreeLeaves.j0
      repeat' first
      | (with_reducible exact ih0 _ _)
      | (with_reducible exact ih1 _ _ _ _ _)
      | (with_reducible exact ih2 _ _ _ _ _ _)
      | (with_reducible exact ih3 _ _ _ _ _)
      | (with_reducible exact steelyardkeep_LargeTree.mono _ _)
      | (with_reducible exact tree_Deep.mono _ _)
      | (with_reducible exact LeO.refl _)
      | (with_reducible exact LeO.none _)
      | (with_reducible refine LeO.ite ?_ ?_)
      | (with_reducible refine LeO.bind ?_ (fun _ => ?_))
      | exact ih0 _ _
      | exact ih1 _ _ _ _ _
      | exact ih2 _ _ _ _ _ _
      | exact ih3 _ _ _ _ _
      | exact steelyardkeep_LargeTree.mono _ _
      | exact tree_Deep.mono _ _
      | exact LeO.none _
      | refine LeO.ite ?_ ?_
      | refine LeO.bind ?_ (fun _ => ?_)
    · intro y0 y1 y2 y3 y4
      unfold steelyardlaw14_TreeLeaves.l0
      repeat' first
      | (with_reducible exact ih0 _ _)
      | (with_reducible exact ih1 _ _ _ _ _)
      | (with_reducible exact ih2 _ _ _ _ _ _)
      | (with_reducible exact ih3 _ _ _ _ _)
      | (with_reducible exact steelyardkeep_LargeTree.mono _ _)
      | (with_reducible exact tree_Deep.mono _ _)
      | (with_reducible exact LeO.refl _)
      | (with_reducible exact LeO.none _)
      | (with_reducible refine LeO.ite ?_ ?_)
      | (with_reducible refine LeO.bind ?_ (fun _ => ?_))
      | exact ih0 _ _
      | exact ih1 _ _ _ _ _
      | exact ih2 _ _ _ _ _ _
      | exact ih3 _ _ _ _ _
      | exact steelyardkeep_LargeTree.mono _ _
      | exact tree_Deep.mono _ _
      | exact LeO.none _
      | refine LeO.ite ?_ ?_
      | refine LeO.bind ?_ (fun _ => ?_)
    · intro y0 y1 y2 y3 y4 y5
      unfold steelyardlaw14_TreeLeaves.j2
      repeat' first
      | (with_reducible exact ih0 _ _)
      | (with_reducible exact ih1 _ _ _ _ _)
      | (with_reducible exact ih2 _ _ _ _ _ _)
      | (with_reducible exact ih3 _ _ _ _ _)
      | (with_reducible exact steelyardkeep_LargeTree.mono _ _)
      | (with_reducible exact tree_Deep.mono _ _)
      | (with_reducible exact LeO.refl _)
      | (with_reducible exact LeO.none _)
      | (with_reducible refine LeO.ite ?_ ?_)
      | (with_reducible refine LeO.bind ?_ (fun _ => ?_))
      | exact ih0 _ _
      | exact ih1 _ _ _ _ _
      | exact ih2 _ _ _ _ _ _
      | exact ih3 _ _ _ _ _
      | exact steelyardkeep_LargeTree.mono _ _
      | exact tree_Deep.mono _ _
      | exact LeO.none _
      | refine LeO.ite ?_ ?_
      | refine LeO.bind ?_ (fun _ => ?_)
    · intro y0 y1 y2 y3 y4
      unfold steelyardlaw14_TreeLeaves.l1
      repeat' first
      | (with_reducible exact ih0 _ _)
      | (with_reducible exact ih1 _ _ _ _ _)
      | (with_reducible exact ih2 _ _ _ _ _ _)
      | (with_reducible exact ih3 _ _ _ _ _)
      | (with_reducible exact steelyardkeep_LargeTree.mono _ _)
      | (with_reducible exact tree_Deep.mono _ _)
      | (with_reducible exact LeO.refl _)
      | (with_reducible exact LeO.none _)
      | (with_reducible refine LeO.ite ?_ ?_)
      | (with_reducible refine LeO.bind ?_ (fun _ => ?_))
      | exact ih0 _ _
      | exact ih1 _ _ _ _ _
      | exact ih2 _ _ _ _ _ _
      | exact ih3 _ _ _ _ _
      | exact steelyardkeep_LargeTree.mono _ _
      | exact tree_Deep.mono _ _
      | exact LeO.none _
      | refine LeO.ite ?_ ?_
      | refine LeO.bind ?_ (fun _ => ?_)
theorem steelyardlaw14_TreeLeaves.mono : ∀ a0 k, LeO (steelyardlaw14_TreeLeaves.f k a0) (steelyardlaw14_TreeLeaves.f (k + 1) a0) := by
  intro a0 k
  obtain ⟨ih0, ih1, ih2, ih3⟩ := steelyardlaw14_TreeLeaves.mono_l k
  unfold steelyardlaw14_TreeLeaves.f
  repeat' first
      | (with_reducible exact ih0 _ _)
      | (with_reducible exact ih1 _ _ _ _ _)
      | (with_reducible exact ih2 _ _ _ _ _ _)
      | (with_reducible exact ih3 _ _ _ _ _)
      | (with_reducible exact steelyardkeep_LargeTree.mono _ _)
      | (with_reducible exact tree_Deep.mono _ _)
      | (with_reducible exact LeO.refl _)
      | (with_reducible exact LeO.none _)
      | (with_reducible refine LeO.ite ?_ ?_)
      | (with_reducible refine LeO.bind ?_ (fun _ => ?_))
      | exact ih0 _ _
      | exact ih1 _ _ _ _ _
      | exact ih2 _ _ _ _ _ _
      | exact ih3 _ _ _ _ _
      | exact steelyardkeep_LargeTree.mono _ _
      | exact tree_Deep.mono _ _
      | exact LeO.none _
      | refine LeO.ite ?_ ?_
      | refine LeO.bind ?_ (fun _ => ?_)
set_option maxHeartbeats 8000000 in
set_option maxRecDepth 100000 in
theorem steelyardlaw14_TreeLeaves.calls (k : Nat) (A0 : Option Addr) (c0 : Nat) (l0 : List (S52)) (r : Bool) (w : World) (hr0 : Kd.C k52 w A0 l0.length l0) (hc0 : l0.length ≤ c0) (h : steelyardlaw14_TreeLeaves.f k l0 = some r) (hG_ : Glob w) :
    Calls Tryd.prog 10 #[.slice A0 l0.length c0] w fun e w' => e = .returned (.bool r) ∧ Below w.heap.size w w' := by
  have HG_ := Aside0.mk hG_
  clear hG_
  have HR0 := Aside0.mk hr0
  have HC0 := Aside0.mk hc0
  clear hr0 hc0
  have HB := Aside0.mk (Below.refl w.heap.size w)
  have H : ((steelyardkeep_LargeTree.f k l0).bind fun t409 => (if t409 = true then (steelyardlaw14_TreeLeaves.j0 k l0 true) else ((steelyardref14_Good.f l0).bind fun t410 => (steelyardlaw14_TreeLeaves.j0 k l0 (!t410))))) = some r := h
  clear h
  have HC2 := Aside0.mk H
  clear H
  go_enter Tryd.func10, Tryd.ntmps10
  go_upto_region 1 with (fail)
  go_cut [14] (fun v14 wc => ∃ (kq : Nat) (x14_1 : Bool), v14 = .bool x14_1 ∧ Aside0 (steelyardlaw14_TreeLeaves.j0 kq l0 x14_1 = some r) ∧ Aside0 (kq ≤ k) ∧ Aside0 (Below w.heap.size w wc))
  case first =>
    have H := HC2.out
    clear HC2
    replace H := Option.bind_eq_some_iff.mp H
    obtain ⟨t409, A30, H⟩ := H
    replace H : (if t409 = true then (steelyardlaw14_TreeLeaves.j0 k l0 true) else ((steelyardref14_Good.f l0).bind fun t410 => (steelyardlaw14_TreeLeaves.j0 k l0 (!t410)))) = some r := H
    have A3 := Aside0.mk A30
    clear A30
    by_cases c4 : t409 = true
    · subst c4
      have H1 : (steelyardlaw14_TreeLeaves.j0 k l0 true) = some r := by rw [if_pos rfl] at H; exact H
      clear H
      have H := H1
      clear H1
      have H' := Aside0.mk H
      clear H
      go_wp2_with (first | ((with_reducible refine gate_callee (f := 22) rfl ?_); refine goesL_ (some 9) rfl rfl Tryd.func22 (by kernel_rfl) rfl #[.slice A0 l0.length c0] rfl (by (try simp only [List.map_toArray, List.map_cons, List.map_nil]); first | done | rfl | (simp only [List.length_drop, List.length_take]; rfl)) ?_; (with_reducible refine (steelyardkeep_LargeTree.calls k _ _ l0 true _ ?side1 ?side2 A3.out).mono ?_); (case side1 => repeat (first | exact (Kd.C_below HR0.out HB.out) | (with_reducible refine Kd.C_alloc ?_ _) | (with_reducible refine Kd.C_drewN ?_ _) | (with_reducible refine Kd.C_drew ?_))); (case side2 => exact HC0.out); rintro e w5 ⟨rfl, hb⟩; refine ⟨_, rfl, ?_⟩; have n0_ := Aside0.mk (below_step (by repeat (first | (with_reducible first | exact HB.out | apply below_alloc | apply pw_below_drewN | apply below_drew1) | exact HB.out)) hb); clear HB; have HB := n0_; clear n0_; (try clear hb); (try clear hb2); (try clear hk); (try clear hi)))
      go_meet
      case rel => exact ⟨_, (true), (by first | rfl | (simp; done) | (simp [*]; done)), H', ⟨by first | omega | exact Nat.le_refl _⟩, ⟨by repeat (first | (with_reducible first | exact HB.out | apply below_alloc | apply pw_below_drewN | apply below_drew1) | exact HB.out)⟩⟩
    · replace c4 := Bool.eq_false_iff.mpr c4
      subst c4
      have H1 : ((steelyardref14_Good.f l0).bind fun t410 => (steelyardlaw14_TreeLeaves.j0 k l0 (!t410))) = some r := by rw [if_neg (show ¬ (false = true) by decide)] at H; exact H
      clear H
      have H := H1
      clear H1
      replace H := Option.bind_eq_some_iff.mp H
      obtain ⟨t410, A60, H⟩ := H
      replace H : (steelyardlaw14_TreeLeaves.j0 k l0 (!t410)) = some r := H
      have A6 := Aside0.mk A60
      clear A60
      have H' := Aside0.mk H
      clear H
      go_wp2_with (first | ((with_reducible refine gate_callee (f := 22) rfl ?_); refine goesL_ (some 9) rfl rfl Tryd.func22 (by kernel_rfl) rfl #[.slice A0 l0.length c0] rfl (by (try simp only [List.map_toArray, List.map_cons, List.map_nil]); first | done | rfl | (simp only [List.length_drop, List.length_take]; rfl)) ?_; (with_reducible refine (steelyardkeep_LargeTree.calls k _ _ l0 false _ ?side1 ?side2 A3.out).mono ?_); (case side1 => repeat (first | exact (Kd.C_below HR0.out HB.out) | (with_reducible refine Kd.C_alloc ?_ _) | (with_reducible refine Kd.C_drewN ?_ _) | (with_reducible refine Kd.C_drew ?_))); (case side2 => exact HC0.out); rintro e w7 ⟨rfl, hb⟩; refine ⟨_, rfl, ?_⟩; have n0_ := Aside0.mk (below_step (by repeat (first | (with_reducible first | exact HB.out | apply below_alloc | apply pw_below_drewN | apply below_drew1) | exact HB.out)) hb); clear HB; have HB := n0_; clear n0_; (try clear hb); (try clear hb2); (try clear hk); (try clear hi)) | (go_at_call 34; (with_reducible refine (steelyardref14_Good.calls _ _ l0 t410 _ ?side1 ?side2 A6.out).mono ?_); (case side1 => repeat (first | exact (Kd.C_below HR0.out HB.out) | (with_reducible refine Kd.C_alloc ?_ _) | (with_reducible refine Kd.C_drewN ?_ _) | (with_reducible refine Kd.C_drew ?_))); (case side2 => exact HC0.out); rintro e w8 ⟨rfl, hb⟩; have n0_ := Aside0.mk (below_step (by repeat (first | (with_reducible first | exact HB.out | apply below_alloc | apply pw_below_drewN | apply below_drew1) | exact HB.out)) hb); clear HB; have HB := n0_; clear n0_; (try clear hb); (try clear hb2); (try clear hk); (try clear hi)))
      go_meet
      case rel => exact ⟨_, (!t410), (by first | rfl | (simp; done) | (simp [*]; done)), H', ⟨by first | omega | exact Nat.le_refl _⟩, ⟨by repeat (first | (with_reducible first | exact HB.out | apply below_alloc | apply pw_below_drewN | apply below_drew1) | exact HB.out)⟩⟩
  case rest =>
    clear HC2
    try clear c1
    try clear c2
    try clear p2
    try clear c4
    obtain ⟨kq, x14_1, rfl, HA, HJ1, HB⟩ := hcut
    cases kq with
    | zero => exact absurd HA.out (by simp [steelyardlaw14_TreeLeaves.j0])
    | succ kj1 =>
      have H := HA.out
      clear HA
      simp only [steelyardlaw14_TreeLeaves.j0] at H
      by_cases c9 : x14_1 = true
      · subst c9
        have H1 : ((steelyardlaw14_wakes.f).bind fun t411 => (some t411)) = some r := by rw [if_pos rfl] at H; exact H
        clear H
        have H := H1
        clear H1
        replace H := Option.bind_eq_some_iff.mp H
        obtain ⟨t411, A100, H⟩ := H
        replace H : (some t411) = some r := H
        have A10 := Aside0.mk A100
        clear A100
        obtain rfl := Option.some.inj H
        go_wp2_with (first | ((with_reducible refine gate_callee (f := 23) rfl ?_); refine goesL_ (some 15) rfl rfl Tryd.func23 (by kernel_rfl) rfl #[] rfl (by (try simp only [List.map_toArray, List.map_cons, List.map_nil]); first | done | rfl | (simp only [List.length_drop, List.length_take]; rfl)) ?_; (with_reducible refine (steelyardlaw14_wakes.calls  t411 _ A10.out ?sideG_).mono ?_); (case sideG_ => (first | (with_reducible exact HG_.out) | exact HG_.out.below (by repeat (first | (with_reducible first | exact HB.out | apply below_alloc | apply pw_below_drewN | apply below_drew1) | exact HB.out)))); rintro e w11 ⟨rfl, hb⟩; refine ⟨_, rfl, ?_⟩; have n0_ := Aside0.mk (below_step (by repeat (first | (with_reducible first | exact HB.out | apply below_alloc | apply pw_below_drewN | apply below_drew1) | exact HB.out)) hb); clear HB; have HB := n0_; clear n0_; (try clear hb); (try clear hb2); (try clear hk); (try clear hi)))
        go_ret
        exact ⟨by first | rfl | (simp [errW_none, errW_some] <;> rfl) | (simp [*, errW_none, errW_some] <;> rfl), by repeat (first | (with_reducible first | exact HB.out | apply below_alloc | apply pw_below_drewN | apply below_drew1) | exact HB.out)⟩
      · replace c9 := Bool.eq_false_iff.mpr c9
        subst c9
        have H1 : (if 0 ≤ (l0.length : Int) then (if ((l0.length : Int) : Int).toNat ≤ 35184372088832 then (steelyardlaw14_TreeLeaves.l0 kj1 l0 0 0 (List.replicate ((l0.length : Int) : Int).toNat 0) 0) else (none)) else (none)) = some r := by rw [if_neg (show ¬ (false = true) by decide)] at H; exact H
        clear H
        have H := H1
        clear H1
        by_cases c12 : 0 ≤ (l0.length : Int)
        · rw [if_pos c12] at H
          have c12b0 := eq_true c12
          have c12b1 : decide (0 ≤ (l0.length : Int)) = true := decide_eq_true c12
          clear c12
          by_cases c13 : ((l0.length : Int) : Int).toNat ≤ 35184372088832
          · rw [if_pos c13] at H
            have c13b0 := eq_true c13
            have c13b1 : decide (((l0.length : Int) : Int).toNat ≤ 35184372088832) = true := decide_eq_true c13
            clear c13
            obtain ⟨y412, hy412⟩ : ∃ y_ : List Int, y_ = (List.replicate ((l0.length : Int) : Int).toNat 0) := ⟨_, rfl⟩
            replace H : (steelyardlaw14_TreeLeaves.l0 kj1 l0 0 0 y412 0) = some r := by first | (rw [hy412]; with_reducible exact H) | (have H2_ := (Option.bind_some _ _).symm.trans H; rw [hy412]; with_reducible exact H2_) | (have H2_ := (Option.bind_some _ _).symm.trans H; with_reducible exact H2_) | with_reducible exact H | (rw [hy412]; exact H) | exact H
            have Ny412 := Aside0.mk hy412
            clear hy412
            have H' := Aside0.mk H
            clear H
            go_wp2_with (first | ((with_reducible refine gate_dst (N := 18) rfl ?_); (try (refine gate_guard (by rfl) ?_; dsimp only)); refine Kd.R_make (Kd.int .i64) _ 3 rfl (N := 18) rfl 56 _ _ rfl (l0.length : Int) rfl rfl Tryd.underlying56 (.int .i64 0) 8 info3 rfl (by decide) (by omega) 0 (ok := fun _ => True) (okp := fun _ => True) rfl (fun _ hk => hk) trivial (of_decide_eq_true (by first | (with_reducible assumption) | assumption)) (Nat.le_trans (Nat.mul_le_mul_right _ (of_decide_eq_true (by first | (with_reducible assumption) | assumption) : (l0.length : Int).toNat ≤ 35184372088832)) (by omega)) (Below.refl _ _) (Nat.le_refl _) ?_; intro v413 w14 ho15 hb hg_ hnew_; clear hg_ hnew_; (first | rw [← Ny412.out] at ho15 | (simp only [Int.reduceToNat] at ho15; rw [← Ny412.out] at ho15)); have n0_ := Aside0.mk (Kd.R_lower ho15 (below_size (by repeat (first | (with_reducible first | exact HB.out | apply below_alloc | apply pw_below_drewN | apply below_drew1) | exact HB.out)))); have n1_ := Aside0.mk (below_step (by repeat (first | (with_reducible first | exact HB.out | apply below_alloc | apply pw_below_drewN | apply below_drew1) | exact HB.out)) hb); clear HB; have HO414 := n0_; have HB := n1_; clear n0_ n1_; clear hb ho15))
            go_loopg [3, 4, 6] kj1 (fun kq v3 v4 v6 w' => ∃ (x3_2 : Int) (x4_2 : Int) (x5_2 : List Int) (x6_2 : Int), v3 = .int .i64 x3_2 ∧ v4 = .int .i64 x4_2 ∧ v6 = .int .i64 x6_2 ∧ Aside0 (steelyardlaw14_TreeLeaves.l0 kq l0 x3_2 x4_2 x5_2 x6_2 = some r) ∧ Aside0 (kq ≤ kj1) ∧ Aside0 (Kd.R (Kd.int .i64) 3 w' w.heap.size (fun _ => True) v413 x5_2) ∧ Aside0 (Below w.heap.size w w'))
            case atStart => exact ⟨(0), (0), (y412), (0), (by first | rfl | (simp; done) | (simp [*]; done)), (by first | rfl | (simp; done) | (simp [*]; done)), (by first | rfl | (simp; done) | (simp [*]; done)), H', ⟨Nat.le_refl _⟩, ⟨by (with_reducible repeat (first | apply Kd.R_alloc | apply Kd.R_drewN | apply Kd.R_drew)); exact HO414.out⟩, ⟨by repeat (first | (with_reducible first | exact HB.out | apply below_alloc | apply pw_below_drewN | apply below_drew1) | exact HB.out)⟩⟩
            case round =>
              clear H'
              try clear c1
              try clear c2
              try clear p2
              try clear c4
              try clear c9
              try clear c10
              try clear c12
              try clear c12b0
              try clear c12b1
              try clear c13
              try clear c13b0
              try clear c13b1
              try clear p2
              obtain ⟨x3_2, x4_2, x5_2, x6_2, rfl, rfl, rfl, HA, HK2, HO_5, HB⟩ := hrel
              cases gk with
              | zero => exact absurd HA.out (by simp [steelyardlaw14_TreeLeaves.l0])
              | succ k2 =>
                have H := HA.out
                clear HA
                simp only [steelyardlaw14_TreeLeaves.l0] at H
                by_cases c16 : x6_2 < (l0.length : Int)
                · rw [if_pos c16] at H
                  have c16b0 : decide (x6_2 < (l0.length : Int)) = true := decide_eq_true c16
                  clear c16
                  have HC17 := Aside0.mk H
                  clear H
                  go_upto_region 9 with (fail)
                  go_cut [35] (fun v35 wc => ∃ (kq : Nat) (x35_16 : Bool), v35 = .bool x35_16 ∧ Aside0 (steelyardlaw14_TreeLeaves.j2 kq l0 x3_2 x4_2 x5_2 x6_2 x35_16 = some r) ∧ Aside0 (kq ≤ k2) ∧ Aside0 (Kd.R (Kd.int .i64) 3 wc w.heap.size (fun _ => True) v413 x5_2) ∧ Aside0 (Below w.heap.size w wc))
                  case first =>
                    have H := HC17.out
                    clear HC17
                    by_cases c18 : 0 ≤ x6_2
                    · rw [if_pos c18] at H
                      have c18b0 : decide (0 ≤ x6_2) = true := decide_eq_true c18
                      clear c18
                      (first | rw [c18b0] | (simp only [i64_w, i32_w]; rw [c18b0]) | skip)
                      by_cases c19 : ((rd_T52 l0 x6_2).f0) = 1
                      · rw [if_pos c19] at H
                        have c19b0 : (((rd_T52 l0 x6_2).f0) == 1) = true := beq_iff_eq.mpr c19
                        have c19b1 : (((rd_T52 l0 x6_2).f0) != 1) = false := bne_eq_false_iff_eq.mpr c19
                        clear c19
                        have H' := Aside0.mk H
                        clear H
                        have p415 : 0 ≤ (x6_2 : Int) := of_decide_eq_true (by first | (with_reducible assumption) | assumption)
                        have q415 : x6_2 < (l0.length : Int) := of_decide_eq_true (by first | (with_reducible assumption) | assumption)
                        obtain ⟨ad415, e415, hx415_0, hx415_1, hx415_2, hx415_3, hx415_4, hx415_5, hx415_6⟩ := at_T52 HR0.out x6_2 p415 q415
                        cases e415
                        replace hx415_0 := (HB.out.cell (World.block_lt_of_cell? w _ hx415_0)).trans hx415_0
                        replace hx415_1 := (HB.out.cell (World.block_lt_of_cell? w _ hx415_1)).trans hx415_1
                        replace hx415_2 := (HB.out.cell (World.block_lt_of_cell? w _ hx415_2)).trans hx415_2
                        replace hx415_3 := (HB.out.cell (World.block_lt_of_cell? w _ hx415_3)).trans hx415_3
                        replace hx415_4 := (HB.out.cell (World.block_lt_of_cell? w _ hx415_4)).trans hx415_4
                        replace hx415_5 := (HB.out.cell (World.block_lt_of_cell? w _ hx415_5)).trans hx415_5
                        replace hx415_6 := (HB.out.cell (World.block_lt_of_cell? w _ hx415_6)).trans hx415_6
                        replace p415 := eq_true p415
                        replace q415 := eq_true q415
                        go_wp2
                        go_meet
                        case rel => exact ⟨_, (true), (by first | rfl | (simp; done) | (simp [*]; done)), H', ⟨by have := HJ1.out; have := HK2.out; first | omega | exact Nat.le_refl _⟩, ⟨by (with_reducible repeat (first | apply Kd.R_alloc | apply Kd.R_drewN | apply Kd.R_drew)); exact HO_5.out⟩, ⟨by repeat (first | (with_reducible first | exact HB.out | apply below_alloc | apply pw_below_drewN | apply below_drew1) | exact HB.out)⟩⟩
                      · rw [if_neg c19] at H
                        have c19b0 : (((rd_T52 l0 x6_2).f0) == 1) = false := beq_eq_false_iff_ne.mpr c19
                        have c19b1 : (((rd_T52 l0 x6_2).f0) != 1) = true := bne_iff_ne.mpr c19
                        have H' := Aside0.mk H
                        clear H
                        have p415 : 0 ≤ (x6_2 : Int) := of_decide_eq_true (by first | (with_reducible assumption) | assumption)
                        have q415 : x6_2 < (l0.length : Int) := of_decide_eq_true (by first | (with_reducible assumption) | assumption)
                        obtain ⟨ad415, e415, hx415_0, hx415_1, hx415_2, hx415_3, hx415_4, hx415_5, hx415_6⟩ := at_T52 HR0.out x6_2 p415 q415
                        cases e415
                        replace hx415_0 := (HB.out.cell (World.block_lt_of_cell? w _ hx415_0)).trans hx415_0
                        replace hx415_1 := (HB.out.cell (World.block_lt_of_cell? w _ hx415_1)).trans hx415_1
                        replace hx415_2 := (HB.out.cell (World.block_lt_of_cell? w _ hx415_2)).trans hx415_2
                        replace hx415_3 := (HB.out.cell (World.block_lt_of_cell? w _ hx415_3)).trans hx415_3
                        replace hx415_4 := (HB.out.cell (World.block_lt_of_cell? w _ hx415_4)).trans hx415_4
                        replace hx415_5 := (HB.out.cell (World.block_lt_of_cell? w _ hx415_5)).trans hx415_5
                        replace hx415_6 := (HB.out.cell (World.block_lt_of_cell? w _ hx415_6)).trans hx415_6
                        replace p415 := eq_true p415
                        replace q415 := eq_true q415
                        have p416 : 0 ≤ (x6_2 : Int) := of_decide_eq_true (by first | (with_reducible assumption) | assumption)
                        have q416 : x6_2 < (l0.length : Int) := of_decide_eq_true (by first | (with_reducible assumption) | assumption)
                        obtain ⟨ad416, e416, hx416_0, hx416_1, hx416_2, hx416_3, hx416_4, hx416_5, hx416_6⟩ := at_T52 HR0.out x6_2 p416 q416
                        obtain rfl : ad415 = ad416 := (by injection e416)
                        replace hx416_0 := (HB.out.cell (World.block_lt_of_cell? w _ hx416_0)).trans hx416_0
                        replace hx416_1 := (HB.out.cell (World.block_lt_of_cell? w _ hx416_1)).trans hx416_1
                        replace hx416_2 := (HB.out.cell (World.block_lt_of_cell? w _ hx416_2)).trans hx416_2
                        replace hx416_3 := (HB.out.cell (World.block_lt_of_cell? w _ hx416_3)).trans hx416_3
                        replace hx416_4 := (HB.out.cell (World.block_lt_of_cell? w _ hx416_4)).trans hx416_4
                        replace hx416_5 := (HB.out.cell (World.block_lt_of_cell? w _ hx416_5)).trans hx416_5
                        replace hx416_6 := (HB.out.cell (World.block_lt_of_cell? w _ hx416_6)).trans hx416_6
                        replace p416 := eq_true p416
                        replace q416 := eq_true q416
                        go_wp2
                        go_meet
                        case rel => exact ⟨_, ((((rd_T52 l0 x6_2).f0) == 2)), (by first | rfl | (simp; done) | (simp [*]; done)), H', ⟨by have := HJ1.out; have := HK2.out; first | omega | exact Nat.le_refl _⟩, ⟨by (with_reducible repeat (first | apply Kd.R_alloc | apply Kd.R_drewN | apply Kd.R_drew)); exact HO_5.out⟩, ⟨by repeat (first | (with_reducible first | exact HB.out | apply below_alloc | apply pw_below_drewN | apply below_drew1) | exact HB.out)⟩⟩
                    · rw [if_neg c18] at H
                      exact absurd H (by simp)
                  case rest =>
                    clear HC17
                    try clear c1
                    try clear c2
                    try clear p2
                    try clear c4
                    try clear p4
                    try clear q4
                    try clear hx4
                    try clear c9
                    try clear c10
                    try clear c12
                    try clear c12b0
                    try clear c12b1
                    try clear c13
                    try clear c13b0
                    try clear c13b1
                    try clear c16
                    try clear c16b0
                    try clear c18
                    try clear c18b0
                    try clear c19
                    try clear c19b0
                    try clear c19b1
                    try clear hx415_0
                    try clear hx415_1
                    try clear hx415_2
                    try clear hx415_3
                    try clear hx415_4
                    try clear hx415_5
                    try clear hx415_6
                    try clear hx416_0
                    try clear hx416_1
                    try clear hx416_2
                    try clear hx416_3
                    try clear hx416_4
                    try clear hx416_5
                    try clear hx416_6
                    try clear p2
                    try clear p415
                    try clear p416
                    try clear q415
                    try clear q416
                    obtain ⟨kq, x35_16, rfl, HA, HJ16, HO_5, HB⟩ := hcut
                    cases kq with
                    | zero => exact absurd HA.out (by simp [steelyardlaw14_TreeLeaves.j2])
                    | succ kj16 =>
                      have H := HA.out
                      clear HA
                      simp only [steelyardlaw14_TreeLeaves.j2] at H
                      by_cases c20 : x35_16 = true
                      · subst c20
                        have H1 : (steelyardlaw14_TreeLeaves.l0 kj16 l0 (wrap64 (x3_2 + 1)) x4_2 x5_2 (wrap64 (x6_2 + 1))) = some r := by rw [if_pos rfl] at H; exact H
                        clear H
                        have H := H1
                        clear H1
                        have H' := Aside0.mk H
                        clear H
                        go_wp2
                        go_roundg kj16
                        case measure => have := HJ1.out; have := HK2.out; have := HJ16.out; omega
                        case rel => exact ⟨(wrap64 (x3_2 + 1)), (x4_2), (x5_2), (wrap64 (x6_2 + 1)), (by first | rfl | (simp; done) | (simp [*]; done)), (by first | rfl | (simp; done) | (simp [*]; done)), (by first | rfl | (simp; done) | (simp [*]; done)), H', ⟨by have := HJ1.out; have := HK2.out; have := HJ16.out; omega⟩, ⟨by (with_reducible repeat (first | apply Kd.R_alloc | apply Kd.R_drewN | apply Kd.R_drew)); exact HO_5.out⟩, ⟨by repeat (first | (with_reducible first | exact HB.out | apply below_alloc | apply pw_below_drewN | apply below_drew1) | exact HB.out)⟩⟩
                      · replace c20 := Bool.eq_false_iff.mpr c20
                        subst c20
                        have H1 : (if 0 ≤ x6_2 then (if x6_2 < (l0.length : Int) then ((steelyardref14_Two.f ((rd_T52 l0 x6_2).f0)).bind fun t418 => (if t418 = true then (if 0 ≤ ((rd_T52 l0 x6_2).f1) then (if ((rd_T52 l0 x6_2).f1) < (x5_2.length : Int) then ((some (x5_2.set (((rd_T52 l0 x6_2).f1) : Int).toNat (wrap64 ((rd x5_2 ((rd_T52 l0 x6_2).f1)) + 1)) : List Int)).bind fun y421 => (if 0 ≤ ((rd_T52 l0 x6_2).f2) then (if ((rd_T52 l0 x6_2).f2) < (x5_2.length : Int) then (steelyardlaw14_TreeLeaves.l0 kj16 l0 x3_2 (wrap64 (x4_2 + 1)) (y421.set (((rd_T52 l0 x6_2).f2) : Int).toNat (wrap64 ((rd y421 ((rd_T52 l0 x6_2).f2)) + 1))) (wrap64 (x6_2 + 1))) else (none)) else (none))) else (none)) else (none)) else (if 0 ≤ ((rd_T52 l0 x6_2).f1) then (if ((rd_T52 l0 x6_2).f1) < (x5_2.length : Int) then (steelyardlaw14_TreeLeaves.l0 kj16 l0 x3_2 x4_2 (x5_2.set (((rd_T52 l0 x6_2).f1) : Int).toNat (wrap64 ((rd x5_2 ((rd_T52 l0 x6_2).f1)) + 1))) (wrap64 (x6_2 + 1))) else (none)) else (none)))) else (none)) else (none)) = some r := by rw [if_neg (show ¬ (false = true) by decide)] at H; exact H
                        clear H
                        have H := H1
                        clear H1
                        by_cases c21 : 0 ≤ x6_2
                        · rw [if_pos c21] at H
                          have c21b0 : decide (0 ≤ x6_2) = true := decide_eq_true c21
                          clear c21
                          by_cases c22 : x6_2 < (l0.length : Int)
                          · rw [if_pos c22] at H
                            have c22b0 : decide (x6_2 < (l0.length : Int)) = true := decide_eq_true c22
                            clear c22
                            replace H := Option.bind_eq_some_iff.mp H
                            obtain ⟨t418, A230, H⟩ := H
                            replace H : (if t418 = true then (if 0 ≤ ((rd_T52 l0 x6_2).f1) then (if ((rd_T52 l0 x6_2).f1) < (x5_2.length : Int) then ((some (x5_2.set (((rd_T52 l0 x6_2).f1) : Int).toNat (wrap64 ((rd x5_2 ((rd_T52 l0 x6_2).f1)) + 1)) : List Int)).bind fun y421 => (if 0 ≤ ((rd_T52 l0 x6_2).f2) then (if ((rd_T52 l0 x6_2).f2) < (x5_2.length : Int) then (steelyardlaw14_TreeLeaves.l0 kj16 l0 x3_2 (wrap64 (x4_2 + 1)) (y421.set (((rd_T52 l0 x6_2).f2) : Int).toNat (wrap64 ((rd y421 ((rd_T52 l0 x6_2).f2)) + 1))) (wrap64 (x6_2 + 1))) else (none)) else (none))) else (none)) else (none)) else (if 0 ≤ ((rd_T52 l0 x6_2).f1) then (if ((rd_T52 l0 x6_2).f1) < (x5_2.length : Int) then (steelyardlaw14_TreeLeaves.l0 kj16 l0 x3_2 x4_2 (x5_2.set (((rd_T52 l0 x6_2).f1) : Int).toNat (wrap64 ((rd x5_2 ((rd_T52 l0 x6_2).f1)) + 1))) (wrap64 (x6_2 + 1))) else (none)) else (none))) = some r := H
                            have A23 := Aside0.mk A230
                            clear A230
                            by_cases c24 : t418 = true
                            · subst c24
                              have H1 : (if 0 ≤ ((rd_T52 l0 x6_2).f1) then (if ((rd_T52 l0 x6_2).f1) < (x5_2.length : Int) then ((some (x5_2.set (((rd_T52 l0 x6_2).f1) : Int).toNat (wrap64 ((rd x5_2 ((rd_T52 l0 x6_2).f1)) + 1)) : List Int)).bind fun y421 => (if 0 ≤ ((rd_T52 l0 x6_2).f2) then (if ((rd_T52 l0 x6_2).f2) < (x5_2.length : Int) then (steelyardlaw14_TreeLeaves.l0 kj16 l0 x3_2 (wrap64 (x4_2 + 1)) (y421.set (((rd_T52 l0 x6_2).f2) : Int).toNat (wrap64 ((rd y421 ((rd_T52 l0 x6_2).f2)) + 1))) (wrap64 (x6_2 + 1))) else (none)) else (none))) else (none)) else (none)) = some r := by rw [if_pos rfl] at H; exact H
                              clear H
                              have H := H1
                              clear H1
                              by_cases c25 : 0 ≤ ((rd_T52 l0 x6_2).f1)
                              · rw [if_pos c25] at H
                                have c25b0 : decide (0 ≤ ((rd_T52 l0 x6_2).f1)) = true := decide_eq_true c25
                                clear c25
                                by_cases c26 : ((rd_T52 l0 x6_2).f1) < (x5_2.length : Int)
                                · rw [if_pos c26] at H
                                  have c26b0 : decide (((rd_T52 l0 x6_2).f1) < (x5_2.length : Int)) = true := decide_eq_true c26
                                  clear c26
                                  obtain ⟨y421, hy421⟩ : ∃ y_ : List Int, y_ = (x5_2.set (((rd_T52 l0 x6_2).f1) : Int).toNat (wrap64 ((rd x5_2 ((rd_T52 l0 x6_2).f1)) + 1))) := ⟨_, rfl⟩
                                  replace H : (if 0 ≤ ((rd_T52 l0 x6_2).f2) then (if ((rd_T52 l0 x6_2).f2) < (x5_2.length : Int) then (steelyardlaw14_TreeLeaves.l0 kj16 l0 x3_2 (wrap64 (x4_2 + 1)) (y421.set (((rd_T52 l0 x6_2).f2) : Int).toNat (wrap64 ((rd y421 ((rd_T52 l0 x6_2).f2)) + 1))) (wrap64 (x6_2 + 1))) else (none)) else (none)) = some r := by first | (rw [hy421]; with_reducible exact H) | (have H2_ := (Option.bind_some _ _).symm.trans H; rw [hy421]; with_reducible exact H2_) | (have H2_ := (Option.bind_some _ _).symm.trans H; with_reducible exact H2_) | with_reducible exact H | (rw [hy421]; exact H) | exact H
                                  have Ny421 := Aside0.mk hy421
                                  clear hy421
                                  by_cases c28 : 0 ≤ ((rd_T52 l0 x6_2).f2)
                                  · rw [if_pos c28] at H
                                    have c28b0 : decide (0 ≤ ((rd_T52 l0 x6_2).f2)) = true := decide_eq_true c28
                                    clear c28
                                    by_cases c29 : ((rd_T52 l0 x6_2).f2) < (x5_2.length : Int)
                                    · rw [if_pos c29] at H
                                      have c29b0 : decide (((rd_T52 l0 x6_2).f2) < (x5_2.length : Int)) = true := decide_eq_true c29
                                      clear c29
                                      obtain ⟨y424, hy424⟩ : ∃ y_ : List Int, y_ = (y421.set (((rd_T52 l0 x6_2).f2) : Int).toNat (wrap64 ((rd y421 ((rd_T52 l0 x6_2).f2)) + 1))) := ⟨_, rfl⟩
                                      replace H : (steelyardlaw14_TreeLeaves.l0 kj16 l0 x3_2 (wrap64 (x4_2 + 1)) y424 (wrap64 (x6_2 + 1))) = some r := by first | (rw [hy424]; with_reducible exact H) | (have H2_ := (Option.bind_some _ _).symm.trans H; rw [hy424]; with_reducible exact H2_) | (have H2_ := (Option.bind_some _ _).symm.trans H; with_reducible exact H2_) | with_reducible exact H | (rw [hy424]; exact H) | exact H
                                      have Ny424 := Aside0.mk hy424
                                      clear hy424
                                      have H' := Aside0.mk H
                                      clear H
                                      have p417 : 0 ≤ (x6_2 : Int) := of_decide_eq_true (by first | (with_reducible assumption) | assumption)
                                      have q417 : x6_2 < (l0.length : Int) := of_decide_eq_true (by first | (with_reducible assumption) | assumption)
                                      obtain ⟨ad417, e417, hx417_0, hx417_1, hx417_2, hx417_3, hx417_4, hx417_5, hx417_6⟩ := at_T52 HR0.out x6_2 p417 q417
                                      cases e417
                                      replace hx417_0 := (HB.out.cell (World.block_lt_of_cell? w _ hx417_0)).trans hx417_0
                                      replace hx417_1 := (HB.out.cell (World.block_lt_of_cell? w _ hx417_1)).trans hx417_1
                                      replace hx417_2 := (HB.out.cell (World.block_lt_of_cell? w _ hx417_2)).trans hx417_2
                                      replace hx417_3 := (HB.out.cell (World.block_lt_of_cell? w _ hx417_3)).trans hx417_3
                                      replace hx417_4 := (HB.out.cell (World.block_lt_of_cell? w _ hx417_4)).trans hx417_4
                                      replace hx417_5 := (HB.out.cell (World.block_lt_of_cell? w _ hx417_5)).trans hx417_5
                                      replace hx417_6 := (HB.out.cell (World.block_lt_of_cell? w _ hx417_6)).trans hx417_6
                                      replace p417 := eq_true p417
                                      replace q417 := eq_true q417
                                      go_wp2_with (first | ((with_reducible refine gate_callee (f := 40) rfl ?_); refine goesL_ (some 58) rfl rfl Tryd.func40 (by kernel_rfl) rfl #[.int .i64 ((rd_T52 l0 x6_2).f0)] rfl (by (try simp only [List.map_toArray, List.map_cons, List.map_nil]); first | done | rfl | (simp only [List.length_drop, List.length_take]; rfl)) ?_; (with_reducible refine (steelyardref14_Two.calls ((rd_T52 l0 x6_2).f0) true _ A23.out).mono ?_); rintro e w31 ⟨rfl, hb⟩; refine ⟨_, rfl, ?_⟩; have n0_ := Aside0.mk (Kd.R_below (by (with_reducible repeat (first | apply Kd.R_alloc | apply Kd.R_drewN | apply Kd.R_drew)); exact HO_5.out) hb); have n1_ := Aside0.mk (below_step (by repeat (first | (with_reducible first | exact HB.out | apply below_alloc | apply pw_below_drewN | apply below_drew1) | exact HB.out)) hb); clear HO_5; clear HB; have HO_5 := n0_; have HB := n1_; clear n0_ n1_; (try clear hb); (try clear hb2); (try clear hk); (try clear hi); have p419 : 0 ≤ (x6_2 : Int) := of_decide_eq_true (by first | (with_reducible assumption) | assumption); have q419 : x6_2 < (l0.length : Int) := of_decide_eq_true (by first | (with_reducible assumption) | assumption); obtain ⟨ad419, e419, hx419_0, hx419_1, hx419_2, hx419_3, hx419_4, hx419_5, hx419_6⟩ := at_T52 HR0.out x6_2 p419 q419; obtain rfl : ad417 = ad419 := (by injection e419); replace hx419_0 := (HB.out.cell (World.block_lt_of_cell? w _ hx419_0)).trans hx419_0; replace hx419_1 := (HB.out.cell (World.block_lt_of_cell? w _ hx419_1)).trans hx419_1; replace hx419_2 := (HB.out.cell (World.block_lt_of_cell? w _ hx419_2)).trans hx419_2; replace hx419_3 := (HB.out.cell (World.block_lt_of_cell? w _ hx419_3)).trans hx419_3; replace hx419_4 := (HB.out.cell (World.block_lt_of_cell? w _ hx419_4)).trans hx419_4; replace hx419_5 := (HB.out.cell (World.block_lt_of_cell? w _ hx419_5)).trans hx419_5; replace hx419_6 := (HB.out.cell (World.block_lt_of_cell? w _ hx419_6)).trans hx419_6; replace p419 := eq_true p419; replace q419 := eq_true q419; obtain ⟨Ao32, co32, eo32⟩ := Kd.R_slice HO_5.out; subst eo32; have p420 : 0 ≤ (((rd_T52 l0 x6_2).f1) : Int) := of_decide_eq_true (by first | (with_reducible assumption) | assumption); have q420 : ((rd_T52 l0 x6_2).f1) < (x5_2.length : Int) := of_decide_eq_true (by first | (with_reducible assumption) | assumption); obtain ⟨ad420, e420, hx420_0⟩ := Kd.at_int (Kd.R_reads' HO_5.out).2.2 ((rd_T52 l0 x6_2).f1) p420 q420; cases e420; replace p420 := eq_true p420; replace q420 := eq_true q420; have p27 : 0 ≤ (((rd_T52 l0 x6_2).f1) : Int) := of_decide_eq_true (by first | (with_reducible assumption) | assumption); have q27 : (((rd_T52 l0 x6_2).f1) : Int) < ((x5_2.length : Int) : Int) := of_decide_eq_true (by first | (with_reducible assumption) | assumption); obtain ⟨go27, co27, eo27, gb27, gl27, cl27, HG27⟩ := Kd.R_form HO_5.out (by omega); (first | cases eo27 | (injection eo27 with ea_ en_ ec_; (first | subst ea_ | (injection ea_ with ea_; subst ea_)); subst ec_; clear en_)); have GB27 := Aside0.mk gb27; have GG27 := Aside0.mk HG27; clear gb27 gl27 HG27; (first | simp only [add_plain] at hx420_0 | skip); obtain ⟨hx27_0, hf27_0⟩ := Kd.R_celln 0 HO_5.out (((rd_T52 l0 x6_2).f1) : Int) p27 q27; replace p27 := eq_true p27; replace q27 := eq_true q27; obtain ⟨hy33_, hz33_⟩ := Kd.R_celln 0 HO_5.out (((rd_T52 l0 x6_2).f1) : Int) (of_decide_eq_true (by first | (with_reducible assumption) | assumption)) (of_decide_eq_true (by first | (with_reducible assumption) | assumption)); have HP33 := Kd.R_putg HO_5.out (((rd_T52 l0 x6_2).f1) : Int) (wrap64 ((rd x5_2 ((rd_T52 l0 x6_2).f1)) + 1))) | ((with_reducible refine gate_store (t := 3) (p := 70) rfl ?_); refine store_event (t := 3) (p := 70) (v := ?vo_w34) (w1 := (w31.setCell ⟨go27, (((rd_T52 l0 x6_2).f1) : Int).toNat, none⟩ (.int .i64 (wrap64 ((rd x5_2 ((rd_T52 l0 x6_2).f1)) + 1))))) ?hg ?ho ?hn ?hr ?_; (case ho => rfl); (case hg => rfl); (case hn => rfl); (case hr => first | (go_simp; done) | (go_simp; rfl)); intro w34 hw; have hg : w31.grownBy w34 (some go27) := (by rw [hw]; exact HP33.2); have hp_ : Kd.R (Kd.int .i64) 3 w34 w.heap.size (fun _ => True) (.slice (some ⟨go27, 0, none⟩) x5_2.length co32) y421 := (by rw [hw, Ny421.out]; exact HP33.1); clear HP33; have n0_ := Aside0.mk (hp_); have n1_ := Aside0.mk ((by rw [hw]; exact below_set (HB.out) GB27.out : Below w.heap.size w w34)); clear HO_5; clear HB; have HO_5 := n0_; have HB := n1_; clear n0_ n1_; clear hg hw hp_; have p422 : 0 ≤ (x6_2 : Int) := of_decide_eq_true (by first | (with_reducible assumption) | assumption); have q422 : x6_2 < (l0.length : Int) := of_decide_eq_true (by first | (with_reducible assumption) | assumption); obtain ⟨ad422, e422, hx422_0, hx422_1, hx422_2, hx422_3, hx422_4, hx422_5, hx422_6⟩ := at_T52 HR0.out x6_2 p422 q422; obtain rfl : ad417 = ad422 := (by injection e422); replace hx422_0 := (HB.out.cell (World.block_lt_of_cell? w _ hx422_0)).trans hx422_0; replace hx422_1 := (HB.out.cell (World.block_lt_of_cell? w _ hx422_1)).trans hx422_1; replace hx422_2 := (HB.out.cell (World.block_lt_of_cell? w _ hx422_2)).trans hx422_2; replace hx422_3 := (HB.out.cell (World.block_lt_of_cell? w _ hx422_3)).trans hx422_3; replace hx422_4 := (HB.out.cell (World.block_lt_of_cell? w _ hx422_4)).trans hx422_4; replace hx422_5 := (HB.out.cell (World.block_lt_of_cell? w _ hx422_5)).trans hx422_5; replace hx422_6 := (HB.out.cell (World.block_lt_of_cell? w _ hx422_6)).trans hx422_6; replace p422 := eq_true p422; replace q422 := eq_true q422; have p423 : 0 ≤ (((rd_T52 l0 x6_2).f2) : Int) := of_decide_eq_true (by first | (with_reducible assumption) | assumption); have q423 : ((rd_T52 l0 x6_2).f2) < (y421.length : Int) := (by have h_ : (((rd_T52 l0 x6_2).f2) : Int) < ((x5_2.length : Int) : Int) := of_decide_eq_true (by first | (with_reducible assumption) | assumption); first | (have e_ := (Kd.R_reads' HO_5.out).1; omega) | simpa only [Ny421.out, List.length_set] using h_); have ql423 : ((((rd_T52 l0 x6_2).f2) : Int) < ((x5_2.length : Int) : Int)) = True := eq_true (of_decide_eq_true (by first | (with_reducible assumption) | assumption)); obtain ⟨ad423, e423, hx423_0⟩ := Kd.at_int (Kd.R_reads' HO_5.out).2.2 ((rd_T52 l0 x6_2).f2) p423 q423; obtain rfl : (⟨go27, 0, none⟩ : Addr) = ad423 := (by injection e423); (first | simp only [add_plain] at hx423_0 | simp only [add_at] at hx423_0 | simp only [Addr.add, Nat.zero_add] at hx423_0 | skip); replace p423 := eq_true p423; replace q423 := eq_true q423; have p30 : 0 ≤ (((rd_T52 l0 x6_2).f2) : Int) := of_decide_eq_true (by first | (with_reducible assumption) | assumption); have q30 : (((rd_T52 l0 x6_2).f2) : Int) < ((x5_2.length : Int) : Int) := of_decide_eq_true (by first | (with_reducible assumption) | assumption); obtain ⟨hx30_0, hf30_0⟩ := Kd.R_celln 0 HO_5.out (((rd_T52 l0 x6_2).f2) : Int) p30 q30; replace p30 := eq_true p30; replace q30 := eq_true q30; obtain ⟨hy35_, hz35_⟩ := Kd.R_celln 0 HO_5.out (((rd_T52 l0 x6_2).f2) : Int) (of_decide_eq_true (by first | (with_reducible assumption) | assumption)) (of_decide_eq_true (by first | (with_reducible assumption) | assumption)); have HP35 := Kd.R_putg HO_5.out (((rd_T52 l0 x6_2).f2) : Int) (wrap64 ((rd y421 ((rd_T52 l0 x6_2).f2)) + 1))) | ((with_reducible refine gate_store (t := 3) (p := 80) rfl ?_); refine store_event (t := 3) (p := 80) (v := ?vo_w36) (w1 := (w34.setCell ⟨go27, (((rd_T52 l0 x6_2).f2) : Int).toNat, none⟩ (.int .i64 (wrap64 ((rd y421 ((rd_T52 l0 x6_2).f2)) + 1))))) ?hg ?ho ?hn ?hr ?_; (case ho => rfl); (case hg => rfl); (case hn => rfl); (case hr => first | (go_simp; done) | (go_simp; rfl)); intro w36 hw; have hg : w34.grownBy w36 (some go27) := (by rw [hw]; exact HP35.2); have hp_ : Kd.R (Kd.int .i64) 3 w36 w.heap.size (fun _ => True) (.slice (some ⟨go27, 0, none⟩) x5_2.length co32) y424 := (by rw [hw, Ny424.out]; exact HP35.1); clear HP35; have n0_ := Aside0.mk (hp_); have n1_ := Aside0.mk ((by rw [hw]; exact below_set (HB.out) GB27.out : Below w.heap.size w w36)); clear HO_5; clear HB; have HO_5 := n0_; have HB := n1_; clear n0_ n1_; clear hg hw hp_))
                                      go_roundg kj16
                                      case measure => have := HJ1.out; have := HK2.out; have := HJ16.out; omega
                                      case rel => exact ⟨(x3_2), (wrap64 (x4_2 + 1)), (y424), (wrap64 (x6_2 + 1)), (by first | rfl | (simp; done) | (simp [*]; done)), (by first | rfl | (simp; done) | (simp [*]; done)), (by first | rfl | (simp; done) | (simp [*]; done)), H', ⟨by have := HJ1.out; have := HK2.out; have := HJ16.out; omega⟩, ⟨by (with_reducible repeat (first | apply Kd.R_alloc | apply Kd.R_drewN | apply Kd.R_drew)); exact HO_5.out⟩, ⟨by repeat (first | (with_reducible first | exact HB.out | apply below_alloc | apply pw_below_drewN | apply below_drew1) | exact HB.out)⟩⟩
                                    · rw [if_neg c29] at H
                                      exact absurd H (by simp)
                                  · rw [if_neg c28] at H
                                    exact absurd H (by simp)
                                · rw [if_neg c26] at H
                                  exact absurd H (by simp)
                              · rw [if_neg c25] at H
                                exact absurd H (by simp)
                            · replace c24 := Bool.eq_false_iff.mpr c24
                              subst c24
                              have H1 : (if 0 ≤ ((rd_T52 l0 x6_2).f1) then (if ((rd_T52 l0 x6_2).f1) < (x5_2.length : Int) then (steelyardlaw14_TreeLeaves.l0 kj16 l0 x3_2 x4_2 (x5_2.set (((rd_T52 l0 x6_2).f1) : Int).toNat (wrap64 ((rd x5_2 ((rd_T52 l0 x6_2).f1)) + 1))) (wrap64 (x6_2 + 1))) else (none)) else (none)) = some r := by rw [if_neg (show ¬ (false = true) by decide)] at H; exact H
                              clear H
                              have H := H1
                              clear H1
                              by_cases c37 : 0 ≤ ((rd_T52 l0 x6_2).f1)
                              · rw [if_pos c37] at H
                                have c37b0 : decide (0 ≤ ((rd_T52 l0 x6_2).f1)) = true := decide_eq_true c37
                                clear c37
                                by_cases c38 : ((rd_T52 l0 x6_2).f1) < (x5_2.length : Int)
                                · rw [if_pos c38] at H
                                  have c38b0 : decide (((rd_T52 l0 x6_2).f1) < (x5_2.length : Int)) = true := decide_eq_true c38
                                  clear c38
                                  obtain ⟨y427, hy427⟩ : ∃ y_ : List Int, y_ = (x5_2.set (((rd_T52 l0 x6_2).f1) : Int).toNat (wrap64 ((rd x5_2 ((rd_T52 l0 x6_2).f1)) + 1))) := ⟨_, rfl⟩
                                  replace H : (steelyardlaw14_TreeLeaves.l0 kj16 l0 x3_2 x4_2 y427 (wrap64 (x6_2 + 1))) = some r := by first | (rw [hy427]; with_reducible exact H) | (have H2_ := (Option.bind_some _ _).symm.trans H; rw [hy427]; with_reducible exact H2_) | (have H2_ := (Option.bind_some _ _).symm.trans H; with_reducible exact H2_) | with_reducible exact H | (rw [hy427]; exact H) | exact H
                                  have Ny427 := Aside0.mk hy427
                                  clear hy427
                                  have H' := Aside0.mk H
                                  clear H
                                  have p417 : 0 ≤ (x6_2 : Int) := of_decide_eq_true (by first | (with_reducible assumption) | assumption)
                                  have q417 : x6_2 < (l0.length : Int) := of_decide_eq_true (by first | (with_reducible assumption) | assumption)
                                  obtain ⟨ad417, e417, hx417_0, hx417_1, hx417_2, hx417_3, hx417_4, hx417_5, hx417_6⟩ := at_T52 HR0.out x6_2 p417 q417
                                  cases e417
                                  replace hx417_0 := (HB.out.cell (World.block_lt_of_cell? w _ hx417_0)).trans hx417_0
                                  replace hx417_1 := (HB.out.cell (World.block_lt_of_cell? w _ hx417_1)).trans hx417_1
                                  replace hx417_2 := (HB.out.cell (World.block_lt_of_cell? w _ hx417_2)).trans hx417_2
                                  replace hx417_3 := (HB.out.cell (World.block_lt_of_cell? w _ hx417_3)).trans hx417_3
                                  replace hx417_4 := (HB.out.cell (World.block_lt_of_cell? w _ hx417_4)).trans hx417_4
                                  replace hx417_5 := (HB.out.cell (World.block_lt_of_cell? w _ hx417_5)).trans hx417_5
                                  replace hx417_6 := (HB.out.cell (World.block_lt_of_cell? w _ hx417_6)).trans hx417_6
                                  replace p417 := eq_true p417
                                  replace q417 := eq_true q417
                                  go_wp2_with (first | ((with_reducible refine gate_callee (f := 40) rfl ?_); refine goesL_ (some 58) rfl rfl Tryd.func40 (by kernel_rfl) rfl #[.int .i64 ((rd_T52 l0 x6_2).f0)] rfl (by (try simp only [List.map_toArray, List.map_cons, List.map_nil]); first | done | rfl | (simp only [List.length_drop, List.length_take]; rfl)) ?_; (with_reducible refine (steelyardref14_Two.calls ((rd_T52 l0 x6_2).f0) false _ A23.out).mono ?_); rintro e w40 ⟨rfl, hb⟩; refine ⟨_, rfl, ?_⟩; have n0_ := Aside0.mk (Kd.R_below (by (with_reducible repeat (first | apply Kd.R_alloc | apply Kd.R_drewN | apply Kd.R_drew)); exact HO_5.out) hb); have n1_ := Aside0.mk (below_step (by repeat (first | (with_reducible first | exact HB.out | apply below_alloc | apply pw_below_drewN | apply below_drew1) | exact HB.out)) hb); clear HO_5; clear HB; have HO_5 := n0_; have HB := n1_; clear n0_ n1_; (try clear hb); (try clear hb2); (try clear hk); (try clear hi); have p425 : 0 ≤ (x6_2 : Int) := of_decide_eq_true (by first | (with_reducible assumption) | assumption); have q425 : x6_2 < (l0.length : Int) := of_decide_eq_true (by first | (with_reducible assumption) | assumption); obtain ⟨ad425, e425, hx425_0, hx425_1, hx425_2, hx425_3, hx425_4, hx425_5, hx425_6⟩ := at_T52 HR0.out x6_2 p425 q425; obtain rfl : ad417 = ad425 := (by injection e425); replace hx425_0 := (HB.out.cell (World.block_lt_of_cell? w _ hx425_0)).trans hx425_0; replace hx425_1 := (HB.out.cell (World.block_lt_of_cell? w _ hx425_1)).trans hx425_1; replace hx425_2 := (HB.out.cell (World.block_lt_of_cell? w _ hx425_2)).trans hx425_2; replace hx425_3 := (HB.out.cell (World.block_lt_of_cell? w _ hx425_3)).trans hx425_3; replace hx425_4 := (HB.out.cell (World.block_lt_of_cell? w _ hx425_4)).trans hx425_4; replace hx425_5 := (HB.out.cell (World.block_lt_of_cell? w _ hx425_5)).trans hx425_5; replace hx425_6 := (HB.out.cell (World.block_lt_of_cell? w _ hx425_6)).trans hx425_6; replace p425 := eq_true p425; replace q425 := eq_true q425; obtain ⟨Ao41, co41, eo41⟩ := Kd.R_slice HO_5.out; subst eo41; have p426 : 0 ≤ (((rd_T52 l0 x6_2).f1) : Int) := of_decide_eq_true (by first | (with_reducible assumption) | assumption); have q426 : ((rd_T52 l0 x6_2).f1) < (x5_2.length : Int) := of_decide_eq_true (by first | (with_reducible assumption) | assumption); obtain ⟨ad426, e426, hx426_0⟩ := Kd.at_int (Kd.R_reads' HO_5.out).2.2 ((rd_T52 l0 x6_2).f1) p426 q426; cases e426; replace p426 := eq_true p426; replace q426 := eq_true q426; have p39 : 0 ≤ (((rd_T52 l0 x6_2).f1) : Int) := of_decide_eq_true (by first | (with_reducible assumption) | assumption); have q39 : (((rd_T52 l0 x6_2).f1) : Int) < ((x5_2.length : Int) : Int) := of_decide_eq_true (by first | (with_reducible assumption) | assumption); obtain ⟨go39, co39, eo39, gb39, gl39, cl39, HG39⟩ := Kd.R_form HO_5.out (by omega); (first | cases eo39 | (injection eo39 with ea_ en_ ec_; (first | subst ea_ | (injection ea_ with ea_; subst ea_)); subst ec_; clear en_)); have GB39 := Aside0.mk gb39; have GG39 := Aside0.mk HG39; clear gb39 gl39 HG39; (first | simp only [add_plain] at hx426_0 | skip); obtain ⟨hx39_0, hf39_0⟩ := Kd.R_celln 0 HO_5.out (((rd_T52 l0 x6_2).f1) : Int) p39 q39; replace p39 := eq_true p39; replace q39 := eq_true q39; obtain ⟨hy42_, hz42_⟩ := Kd.R_celln 0 HO_5.out (((rd_T52 l0 x6_2).f1) : Int) (of_decide_eq_true (by first | (with_reducible assumption) | assumption)) (of_decide_eq_true (by first | (with_reducible assumption) | assumption)); have HP42 := Kd.R_putg HO_5.out (((rd_T52 l0 x6_2).f1) : Int) (wrap64 ((rd x5_2 ((rd_T52 l0 x6_2).f1)) + 1))) | ((with_reducible refine gate_store (t := 3) (p := 34) rfl ?_); refine store_event (t := 3) (p := 34) (v := ?vo_w43) (w1 := (w40.setCell ⟨go39, (((rd_T52 l0 x6_2).f1) : Int).toNat, none⟩ (.int .i64 (wrap64 ((rd x5_2 ((rd_T52 l0 x6_2).f1)) + 1))))) ?hg ?ho ?hn ?hr ?_; (case ho => rfl); (case hg => rfl); (case hn => rfl); (case hr => first | (go_simp; done) | (go_simp; rfl)); intro w43 hw; have hg : w40.grownBy w43 (some go39) := (by rw [hw]; exact HP42.2); have hp_ : Kd.R (Kd.int .i64) 3 w43 w.heap.size (fun _ => True) (.slice (some ⟨go39, 0, none⟩) x5_2.length co41) y427 := (by rw [hw, Ny427.out]; exact HP42.1); clear HP42; have n0_ := Aside0.mk (hp_); have n1_ := Aside0.mk ((by rw [hw]; exact below_set (HB.out) GB39.out : Below w.heap.size w w43)); clear HO_5; clear HB; have HO_5 := n0_; have HB := n1_; clear n0_ n1_; clear hg hw hp_))
                                  go_roundg kj16
                                  case measure => have := HJ1.out; have := HK2.out; have := HJ16.out; omega
                                  case rel => exact ⟨(x3_2), (x4_2), (y427), (wrap64 (x6_2 + 1)), (by first | rfl | (simp; done) | (simp [*]; done)), (by first | rfl | (simp; done) | (simp [*]; done)), (by first | rfl | (simp; done) | (simp [*]; done)), H', ⟨by have := HJ1.out; have := HK2.out; have := HJ16.out; omega⟩, ⟨by (with_reducible repeat (first | apply Kd.R_alloc | apply Kd.R_drewN | apply Kd.R_drew)); exact HO_5.out⟩, ⟨by repeat (first | (with_reducible first | exact HB.out | apply below_alloc | apply pw_below_drewN | apply below_drew1) | exact HB.out)⟩⟩
                                · rw [if_neg c38] at H
                                  exact absurd H (by simp)
                              · rw [if_neg c37] at H
                                exact absurd H (by simp)
                          · rw [if_neg c22] at H
                            exact absurd H (by simp)
                        · rw [if_neg c21] at H
                          exact absurd H (by simp)
                · rw [if_neg c16] at H
                  have c16b0 : decide (x6_2 < (l0.length : Int)) = false := decide_eq_false c16
                  clear c16
                  have H' := Aside0.mk H
                  clear H
                  go_wp2
                  go_loopg [7] k2 (fun kq v7 w' => ∃ (x7_3 : Int), v7 = .int .i64 x7_3 ∧ Aside0 (steelyardlaw14_TreeLeaves.l1 kq l0 x3_2 x4_2 x5_2 x7_3 = some r) ∧ Aside0 (kq ≤ k2) ∧ Aside0 (Kd.R (Kd.int .i64) 3 w' w.heap.size (fun _ => True) v413 x5_2) ∧ Aside0 (Below w.heap.size w w'))
                  case atStart => exact ⟨(0), (by first | rfl | (simp; done) | (simp [*]; done)), H', ⟨Nat.le_refl _⟩, ⟨by (with_reducible repeat (first | apply Kd.R_alloc | apply Kd.R_drewN | apply Kd.R_drew)); exact HO_5.out⟩, ⟨by repeat (first | (with_reducible first | exact HB.out | apply below_alloc | apply pw_below_drewN | apply below_drew1) | exact HB.out)⟩⟩
                  case round =>
                    clear H'
                    try clear c1
                    try clear c2
                    try clear p2
                    try clear q2
                    try clear hx2
                    try clear hf2
                    try clear c3
                    try clear p3
                    try clear q3
                    try clear hx3
                    try clear hf3
                    try clear c4
                    try clear p4
                    try clear q4
                    try clear hx4
                    try clear p6
                    try clear c9
                    try clear c10
                    try clear c12
                    try clear c12b0
                    try clear c12b1
                    try clear c13
                    try clear c13b0
                    try clear c13b1
                    try clear c16
                    try clear c16b0
                    try clear c18
                    try clear c18b0
                    try clear c19
                    try clear c19b0
                    try clear c19b1
                    try clear c20
                    try clear c21
                    try clear c21b0
                    try clear c22
                    try clear c22b0
                    try clear c23
                    try clear c24
                    try clear c25
                    try clear c25b0
                    try clear c26
                    try clear c26b0
                    try clear p27
                    try clear q27
                    try clear hx27
                    try clear hf27
                    try clear c28
                    try clear c28b0
                    try clear c29
                    try clear c29b0
                    try clear p30
                    try clear q30
                    try clear hx30
                    try clear hf30
                    try clear c37
                    try clear c37b0
                    try clear c38
                    try clear c38b0
                    try clear p39
                    try clear q39
                    try clear hx39
                    try clear hf39
                    try clear c40
                    try clear p41
                    try clear q41
                    try clear hx41
                    try clear p42
                    try clear q42
                    try clear hx42
                    try clear hx27_0
                    try clear hx30_0
                    try clear hx39_0
                    try clear hx415_0
                    try clear hx415_1
                    try clear hx415_2
                    try clear hx415_3
                    try clear hx415_4
                    try clear hx415_5
                    try clear hx415_6
                    try clear hx416_0
                    try clear hx416_1
                    try clear hx416_2
                    try clear hx416_3
                    try clear hx416_4
                    try clear hx416_5
                    try clear hx416_6
                    try clear hx417_0
                    try clear hx417_1
                    try clear hx417_2
                    try clear hx417_3
                    try clear hx417_4
                    try clear hx417_5
                    try clear hx417_6
                    try clear hx419_0
                    try clear hx419_1
                    try clear hx419_2
                    try clear hx419_3
                    try clear hx419_4
                    try clear hx419_5
                    try clear hx419_6
                    try clear hx420_0
                    try clear hx422_0
                    try clear hx422_1
                    try clear hx422_2
                    try clear hx422_3
                    try clear hx422_4
                    try clear hx422_5
                    try clear hx422_6
                    try clear hx423_0
                    try clear hx425_0
                    try clear hx425_1
                    try clear hx425_2
                    try clear hx425_3
                    try clear hx425_4
                    try clear hx425_5
                    try clear hx425_6
                    try clear hx426_0
                    try clear p2
                    try clear p27
                    try clear p30
                    try clear p39
                    try clear p4
                    try clear p415
                    try clear p416
                    try clear p417
                    try clear p419
                    try clear p420
                    try clear p422
                    try clear p423
                    try clear p425
                    try clear p426
                    try clear q27
                    try clear q30
                    try clear q39
                    try clear q4
                    try clear q415
                    try clear q416
                    try clear q417
                    try clear q419
                    try clear q420
                    try clear q422
                    try clear q423
                    try clear q425
                    try clear q426
                    obtain ⟨x7_3, rfl, HA, HK3, HO_5, HB⟩ := hrel
                    cases gk with
                    | zero => exact absurd HA.out (by simp [steelyardlaw14_TreeLeaves.l1])
                    | succ k3 =>
                      have H := HA.out
                      clear HA
                      simp only [steelyardlaw14_TreeLeaves.l1] at H
                      by_cases c44 : x7_3 < (x5_2.length : Int)
                      · rw [if_pos c44] at H
                        have c44b0 : decide (x7_3 < (x5_2.length : Int)) = true := decide_eq_true c44
                        clear c44
                        by_cases c45 : 0 ≤ x7_3
                        · rw [if_pos c45] at H
                          have c45b0 : decide (0 ≤ x7_3) = true := decide_eq_true c45
                          clear c45
                          by_cases c46 : (((rd x5_2 x7_3) == 1) != (decide ((wrap64 (x7_3 + 1)) < (l0.length : Int)))) = true
                          · rw [if_pos c46] at H
                            have c46b0 : (((rd x5_2 x7_3) == 1) != (decide ((wrap64 (x7_3 + 1)) < (l0.length : Int)))) = true := c46
                            (try (have c46b1 : decide (((rd x5_2 x7_3) == 1) = (decide ((wrap64 (x7_3 + 1)) < (l0.length : Int)))) = false := by simpa using c46))
                            (try (have c46b2 : (((rd x5_2 x7_3) == 1) == (decide ((wrap64 (x7_3 + 1)) < (l0.length : Int)))) = false := by simpa using c46))
                            (try (have c46b3 : ¬ (((rd x5_2 x7_3) == 1) = (decide ((wrap64 (x7_3 + 1)) < (l0.length : Int)))) := by simpa using c46))
                            clear c46
                            obtain rfl := Option.some.inj H
                            obtain ⟨Ao47, co47, eo47⟩ := Kd.R_slice HO_5.out
                            subst eo47
                            have p428 : 0 ≤ (x7_3 : Int) := of_decide_eq_true (by first | (with_reducible assumption) | assumption)
                            have q428 : x7_3 < (x5_2.length : Int) := of_decide_eq_true (by first | (with_reducible assumption) | assumption)
                            obtain ⟨ad428, e428, hx428_0⟩ := Kd.at_int (Kd.R_reads' HO_5.out).2.2 x7_3 p428 q428
                            cases e428
                            replace p428 := eq_true p428
                            replace q428 := eq_true q428
                            go_wp2
                            go_ret
                            exact ⟨by first | rfl | (simp [errW_none, errW_some] <;> rfl) | (simp [*, errW_none, errW_some] <;> rfl), by repeat (first | (with_reducible first | exact HB.out | apply below_alloc | apply pw_below_drewN | apply below_drew1) | exact HB.out)⟩
                          · rw [if_neg c46] at H
                            have c46b0 : (((rd x5_2 x7_3) == 1) != (decide ((wrap64 (x7_3 + 1)) < (l0.length : Int)))) = false := by simpa using c46
                            (try (have c46b1 : decide (((rd x5_2 x7_3) == 1) = (decide ((wrap64 (x7_3 + 1)) < (l0.length : Int)))) = true := by simpa using c46))
                            (try (have c46b2 : (((rd x5_2 x7_3) == 1) == (decide ((wrap64 (x7_3 + 1)) < (l0.length : Int)))) = true := by simpa using c46))
                            clear c46
                            by_cases c48 : (rd x5_2 x7_3) > 1
                            · rw [if_pos c48] at H
                              have c48b0 : decide (1 < (rd x5_2 x7_3)) = true := decide_eq_true c48
                              clear c48
                              obtain rfl := Option.some.inj H
                              obtain ⟨Ao49, co49, eo49⟩ := Kd.R_slice HO_5.out
                              subst eo49
                              have p428 : 0 ≤ (x7_3 : Int) := of_decide_eq_true (by first | (with_reducible assumption) | assumption)
                              have q428 : x7_3 < (x5_2.length : Int) := of_decide_eq_true (by first | (with_reducible assumption) | assumption)
                              obtain ⟨ad428, e428, hx428_0⟩ := Kd.at_int (Kd.R_reads' HO_5.out).2.2 x7_3 p428 q428
                              cases e428
                              replace p428 := eq_true p428
                              replace q428 := eq_true q428
                              have p429 : 0 ≤ (x7_3 : Int) := of_decide_eq_true (by first | (with_reducible assumption) | assumption)
                              have q429 : x7_3 < (x5_2.length : Int) := of_decide_eq_true (by first | (with_reducible assumption) | assumption)
                              obtain ⟨ad429, e429, hx429_0⟩ := Kd.at_int (Kd.R_reads' HO_5.out).2.2 x7_3 p429 q429
                              obtain rfl : ad428 = ad429 := (by injection e429)
                              replace p429 := eq_true p429
                              replace q429 := eq_true q429
                              go_wp2
                              go_ret
                              exact ⟨by first | rfl | (simp [errW_none, errW_some] <;> rfl) | (simp [*, errW_none, errW_some] <;> rfl), by repeat (first | (with_reducible first | exact HB.out | apply below_alloc | apply pw_below_drewN | apply below_drew1) | exact HB.out)⟩
                            · rw [if_neg c48] at H
                              have c48b0 : decide (1 < (rd x5_2 x7_3)) = false := decide_eq_false c48
                              clear c48
                              have H' := Aside0.mk H
                              clear H
                              obtain ⟨Ao50, co50, eo50⟩ := Kd.R_slice HO_5.out
                              subst eo50
                              have p428 : 0 ≤ (x7_3 : Int) := of_decide_eq_true (by first | (with_reducible assumption) | assumption)
                              have q428 : x7_3 < (x5_2.length : Int) := of_decide_eq_true (by first | (with_reducible assumption) | assumption)
                              obtain ⟨ad428, e428, hx428_0⟩ := Kd.at_int (Kd.R_reads' HO_5.out).2.2 x7_3 p428 q428
                              cases e428
                              replace p428 := eq_true p428
                              replace q428 := eq_true q428
                              have p429 : 0 ≤ (x7_3 : Int) := of_decide_eq_true (by first | (with_reducible assumption) | assumption)
                              have q429 : x7_3 < (x5_2.length : Int) := of_decide_eq_true (by first | (with_reducible assumption) | assumption)
                              obtain ⟨ad429, e429, hx429_0⟩ := Kd.at_int (Kd.R_reads' HO_5.out).2.2 x7_3 p429 q429
                              obtain rfl : ad428 = ad429 := (by injection e429)
                              replace p429 := eq_true p429
                              replace q429 := eq_true q429
                              go_wp2
                              go_roundg k3
                              case measure => have := HJ1.out; have := HK2.out; have := HK3.out; omega
                              case rel => exact ⟨(wrap64 (x7_3 + 1)), (by first | rfl | (simp; done) | (simp [*]; done)), H', ⟨by have := HJ1.out; have := HK2.out; have := HK3.out; omega⟩, ⟨by (with_reducible repeat (first | apply Kd.R_alloc | apply Kd.R_drewN | apply Kd.R_drew)); exact HO_5.out⟩, ⟨by repeat (first | (with_reducible first | exact HB.out | apply below_alloc | apply pw_below_drewN | apply below_drew1) | exact HB.out)⟩⟩
                        · rw [if_neg c45] at H
                          exact absurd H (by simp)
                      · rw [if_neg c44] at H
                        have c44b0 : decide (x7_3 < (x5_2.length : Int)) = false := decide_eq_false c44
                        clear c44
                        by_cases c51 : x3_2 = (wrap64 (x4_2 + 1))
                        · rw [if_pos c51] at H
                          have c51b0 : (x3_2 == (wrap64 (x4_2 + 1))) = true := beq_iff_eq.mpr c51
                          have c51b1 : (x3_2 != (wrap64 (x4_2 + 1))) = false := bne_eq_false_iff_eq.mpr c51
                          clear c51
                          replace H := Option.bind_eq_some_iff.mp H
                          obtain ⟨t430, A520, H⟩ := H
                          replace H : (if t430 ≤ (l0.length : Int) then ((steelyardlaw14_wakes.f).bind fun t431 => (some t431)) else (some false)) = some r := H
                          have A52 := Aside0.mk A520
                          clear A520
                          by_cases c53 : t430 ≤ (l0.length : Int)
                          · rw [if_pos c53] at H
                            have c53b0 : decide (t430 ≤ (l0.length : Int)) = true := decide_eq_true c53
                            clear c53
                            replace H := Option.bind_eq_some_iff.mp H
                            obtain ⟨t431, A540, H⟩ := H
                            replace H : (some t431) = some r := H
                            have A54 := Aside0.mk A540
                            clear A540
                            obtain rfl := Option.some.inj H
                            obtain ⟨Ao55, co55, eo55⟩ := Kd.R_slice HO_5.out
                            subst eo55
                            go_wp2_with (first | (go_at_call 37; (with_reducible refine (tree_Deep.calls k3 _ _ l0 t430 _ ?side1 ?side2 A52.out ?sideG_).mono ?_); (case sideG_ => (first | (with_reducible exact HG_.out) | exact HG_.out.below (by repeat (first | (with_reducible first | exact HB.out | apply below_alloc | apply pw_below_drewN | apply below_drew1) | exact HB.out)))); (case side1 => repeat (first | exact (Kd.C_below HR0.out HB.out) | (with_reducible refine Kd.C_alloc ?_ _) | (with_reducible refine Kd.C_drewN ?_ _) | (with_reducible refine Kd.C_drew ?_))); (case side2 => exact HC0.out); rintro e w56 ⟨rfl, hb⟩; have n0_ := Aside0.mk (Kd.R_below (by (with_reducible repeat (first | apply Kd.R_alloc | apply Kd.R_drewN | apply Kd.R_drew)); exact HO_5.out) hb); have n1_ := Aside0.mk (below_step (by repeat (first | (with_reducible first | exact HB.out | apply below_alloc | apply pw_below_drewN | apply below_drew1) | exact HB.out)) hb); clear HO_5; clear HB; have HO_5 := n0_; have HB := n1_; clear n0_ n1_; (try clear hb); (try clear hb2); (try clear hk); (try clear hi)) | (go_at_call 23; (with_reducible refine (steelyardlaw14_wakes.calls  t431 _ A54.out ?sideG_).mono ?_); (case sideG_ => (first | (with_reducible exact HG_.out) | exact HG_.out.below (by repeat (first | (with_reducible first | exact HB.out | apply below_alloc | apply pw_below_drewN | apply below_drew1) | exact HB.out)))); rintro e w57 ⟨rfl, hb⟩; have n0_ := Aside0.mk (Kd.R_below (by (with_reducible repeat (first | apply Kd.R_alloc | apply Kd.R_drewN | apply Kd.R_drew)); exact HO_5.out) hb); have n1_ := Aside0.mk (below_step (by repeat (first | (with_reducible first | exact HB.out | apply below_alloc | apply pw_below_drewN | apply below_drew1) | exact HB.out)) hb); clear HO_5; clear HB; have HO_5 := n0_; have HB := n1_; clear n0_ n1_; (try clear hb); (try clear hb2); (try clear hk); (try clear hi)))
                            go_ret
                            exact ⟨by first | rfl | (simp [errW_none, errW_some] <;> rfl) | (simp [*, errW_none, errW_some] <;> rfl), by repeat (first | (with_reducible first | exact HB.out | apply below_alloc | apply pw_below_drewN | apply below_drew1) | exact HB.out)⟩
                          · rw [if_neg c53] at H
                            have c53b0 : decide (t430 ≤ (l0.length : Int)) = false := decide_eq_false c53
                            clear c53
                            obtain rfl := Option.some.inj H
                            obtain ⟨Ao58, co58, eo58⟩ := Kd.R_slice HO_5.out
                            subst eo58
                            go_wp2_with (first | (go_at_call 37; (with_reducible refine (tree_Deep.calls k3 _ _ l0 t430 _ ?side1 ?side2 A52.out ?sideG_).mono ?_); (case sideG_ => (first | (with_reducible exact HG_.out) | exact HG_.out.below (by repeat (first | (with_reducible first | exact HB.out | apply below_alloc | apply pw_below_drewN | apply below_drew1) | exact HB.out)))); (case side1 => repeat (first | exact (Kd.C_below HR0.out HB.out) | (with_reducible refine Kd.C_alloc ?_ _) | (with_reducible refine Kd.C_drewN ?_ _) | (with_reducible refine Kd.C_drew ?_))); (case side2 => exact HC0.out); rintro e w59 ⟨rfl, hb⟩; have n0_ := Aside0.mk (Kd.R_below (by (with_reducible repeat (first | apply Kd.R_alloc | apply Kd.R_drewN | apply Kd.R_drew)); exact HO_5.out) hb); have n1_ := Aside0.mk (below_step (by repeat (first | (with_reducible first | exact HB.out | apply below_alloc | apply pw_below_drewN | apply below_drew1) | exact HB.out)) hb); clear HO_5; clear HB; have HO_5 := n0_; have HB := n1_; clear n0_ n1_; (try clear hb); (try clear hb2); (try clear hk); (try clear hi)))
                            go_ret
                            exact ⟨by first | rfl | (simp [errW_none, errW_some] <;> rfl) | (simp [*, errW_none, errW_some] <;> rfl), by repeat (first | (with_reducible first | exact HB.out | apply below_alloc | apply pw_below_drewN | apply below_drew1) | exact HB.out)⟩
                        · rw [if_neg c51] at H
                          have c51b0 : (x3_2 == (wrap64 (x4_2 + 1))) = false := beq_eq_false_iff_ne.mpr c51
                          have c51b1 : (x3_2 != (wrap64 (x4_2 + 1))) = true := bne_iff_ne.mpr c51
                          obtain rfl := Option.some.inj H
                          obtain ⟨Ao60, co60, eo60⟩ := Kd.R_slice HO_5.out
                          subst eo60
                          go_wp2
                          go_ret
                          exact ⟨by first | rfl | (simp [errW_none, errW_some] <;> rfl) | (simp [*, errW_none, errW_some] <;> rfl), by repeat (first | (with_reducible first | exact HB.out | apply below_alloc | apply pw_below_drewN | apply below_drew1) | exact HB.out)⟩
          · rw [if_neg c13] at H
            exact absurd H (by simp)
        · rw [if_neg c12] at H
          exact absurd H (by simp)
end Go.Proofs.YtcajdkncohcaeaaDoor.GTree
