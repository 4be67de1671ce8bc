import Derived.Test.YtcajdkncohcaeaaDoorZGTree0
import Derived.Test.YtcajdkncohcaeaaDoorZGTree2
import Derived.Test.YtcajdkncohcaeaaDoorZGTree4
namespace Go.Proofs.YtcajdkncohcaeaaDoor.GTree
open Go.RowKit Go.Proofs.YtcajdkncohcaeaaDoorW.PrintWords Go.Proofs.YtcajdkncohcaeaaDoorW.PrintLast Go.Proofs.YtcajdkncohcaeaaDoorW.PrintMore
attribute [local go_sem] max2_int min2_int max_two min_two max_three min_three max_four min_four   -- for this text's walks alone
set_option linter.unusedVariables false
set_option linter.unusedSimpArgs false
mutual
def steelyardlaw14_TreeSame.j0 : Nat → List (S52) → Int → Int → Bool → Option (Bool)
  | 0, _, _, _, _ => none
  | k + 1, x0, x1, x2, x16 => if x16 = true then ((steelyardlaw14_wakes.f).bind fun t384 => (some t384)) else ((steelyardkeep_OwnTree.f x0).bind fun t385 => (steelyardlaw14_TreeSame.l0 k x0 x1 x2 t385 0))
def steelyardlaw14_TreeSame.l0 : Nat → List (S52) → Int → Int → List (S52) → Int → Option (Bool)
  | 0, _, _, _, _, _ => none
  | k + 1, x0, x1, x2, x7, x8 => if x8 < (x7.length : Int) then (if 0 ≤ x8 then (steelyardlaw14_TreeSame.l0 k x0 x1 x2 (x7.set (x8 : Int).toNat (⟨(rd_T52 x7 x8).f0, (rd_T52 x7 x8).f1, (rd_T52 x7 x8).f2, (rd_T52 x7 x8).f3, (rd_T52 x7 x8).f4, (rd_T52 x7 x8).f5, x2⟩ : S52)) (wrap64 (x8 + 1))) else (none)) else ((tree_Same.f x0 x7).bind fun t389 => (if t389 = true then ((tree_Same.f x7 x0).bind fun t390 => (if t390 = true then ((tree_Good.f k x7).bind fun t391 => (steelyardlaw14_TreeSame.j2 k x0 x1 x7 (!t391))) else (steelyardlaw14_TreeSame.j2 k x0 x1 x7 true))) else (steelyardlaw14_TreeSame.j2 k x0 x1 x7 true)))
def steelyardlaw14_TreeSame.j2 : Nat → List (S52) → Int → List (S52) → Bool → Option (Bool)
  | 0, _, _, _, _ => none
  | k + 1, x0, x1, x7, x45 => if x45 = true then (some false) else (if (x7.length : Int) = 0 then (none) else (if 0 ≤ (Int.tmod (wrap64 (x1)) (x7.length : Int)) then (if (Int.tmod (wrap64 (x1)) (x7.length : Int)) < (x7.length : Int) then (if ((rd_T52 x7 (Int.tmod (wrap64 (x1)) (x7.length : Int))).f0) = 1 then (steelyardlaw14_TreeSame.j3 k x0 x7 (Int.tmod (wrap64 (x1)) (x7.length : Int)) ((rd_T52 x7 (Int.tmod (wrap64 (x1)) (x7.length : Int))).f0) (((rd_T52 x7 (Int.tmod (wrap64 (x1)) (x7.length : Int))).f0) == 1)) else (steelyardlaw14_TreeSame.j3 k x0 x7 (Int.tmod (wrap64 (x1)) (x7.length : Int)) ((rd_T52 x7 (Int.tmod (wrap64 (x1)) (x7.length : Int))).f0) (((rd_T52 x7 (Int.tmod (wrap64 (x1)) (x7.length : Int))).f0) == 2))) else (none)) else (none)))
def steelyardlaw14_TreeSame.j4 : Nat → List (S52) → List (S52) → Int → Option (Bool)
  | 0, _, _, _ => none
  | k + 1, x0, x7, x9 => if 0 ≤ x9 then (if x9 < (x7.length : Int) then (if x9 < (x0.length : Int) then (if ((rd_T52 x7 x9).f0) = ((rd_T52 x0 x9).f0) then (if ((rd_T52 x7 x9).f3) = ((rd_T52 x0 x9).f3) then (steelyardlaw14_TreeSame.j5 k x0 x7 (((rd_T52 x7 x9).f4).toList == ((rd_T52 x0 x9).f4).toList)) else (steelyardlaw14_TreeSame.j5 k x0 x7 false)) else (steelyardlaw14_TreeSame.j5 k x0 x7 false)) else (none)) else (none)) else (none)
def steelyardlaw14_TreeSame.j5 : Nat → List (S52) → List (S52) → Bool → Option (Bool)
  | 0, _, _, _ => none
  | k + 1, x0, x7, x131 => if x131 = true then ((steelyardlaw14_wakes.f).bind fun t406 => (some t406)) else ((tree_Same.f x0 x7).bind fun t407 => (if t407 = true then (some false) else ((steelyardlaw14_wakes.f).bind fun t408 => (some t408))))
def steelyardlaw14_TreeSame.j3 : Nat → List (S52) → List (S52) → Int → Int → Bool → Option (Bool)
  | 0, _, _, _, _, _ => none
  | k + 1, x0, x7, x9, x55, x66 => if x66 = true then (if 0 ≤ x9 then (if x9 < (x7.length : Int) then (if ((rd_T52 x7 x9).f4).size + 1 ≤ 9223372036854775807 then (steelyardlaw14_TreeSame.j4 k x0 (x7.set (x9 : Int).toNat (⟨(rd_T52 x7 x9).f0, (rd_T52 x7 x9).f1, (rd_T52 x7 x9).f2, (rd_T52 x7 x9).f3, ((rd_T52 x7 x9).f4) ++ (⟨#[49]⟩ : ByteArray), (rd_T52 x7 x9).f5, (rd_T52 x7 x9).f6⟩ : S52)) x9) else (none)) else (none)) else (none)) else (if x55 = 8 then (if 0 ≤ x9 then (if x9 < (x7.length : Int) then (steelyardlaw14_TreeSame.j4 k x0 (x7.set (x9 : Int).toNat (⟨(rd_T52 x7 x9).f0, (rd_T52 x7 x9).f1, (rd_T52 x7 x9).f2, wrap64 (1 - ((rd_T52 x7 x9).f3)), (rd_T52 x7 x9).f4, (rd_T52 x7 x9).f5, (rd_T52 x7 x9).f6⟩ : S52)) x9) else (none)) else (none)) else (if x55 = 7 then (if 0 ≤ x9 then (if x9 < (x7.length : Int) then (steelyardlaw14_TreeSame.j4 k x0 (x7.set (x9 : Int).toNat (⟨8, (rd_T52 x7 x9).f1, (rd_T52 x7 x9).f2, (rd_T52 x7 x9).f3, (rd_T52 x7 x9).f4, (rd_T52 x7 x9).f5, (rd_T52 x7 x9).f6⟩ : S52)) x9) else (none)) else (none)) else (if 0 ≤ x9 then (if x9 < (x7.length : Int) then (steelyardlaw14_TreeSame.j4 k x0 (x7.set (x9 : Int).toNat (⟨wrap64 (9 - ((rd_T52 x7 x9).f0)), (rd_T52 x7 x9).f1, (rd_T52 x7 x9).f2, (rd_T52 x7 x9).f3, (rd_T52 x7 x9).f4, (rd_T52 x7 x9).f5, (rd_T52 x7 x9).f6⟩ : S52)) x9) else (none)) else (none))))
end
def steelyardlaw14_TreeSame.f (k : Nat) (l0 : List (S52)) (a1 : Int) (a2 : Int) : Option (Bool) := (steelyardkeep_LargeTree.f k l0).bind fun t382 => (if t382 = true then (steelyardlaw14_TreeSame.j0 k l0 a1 a2 true) else ((steelyardref14_Good.f l0).bind fun t383 => (steelyardlaw14_TreeSame.j0 k l0 a1 a2 (!t383))))
theorem steelyardlaw14_TreeSame.mono_l : ∀ k, (∀ y0 y1 y2 y3, LeO (steelyardlaw14_TreeSame.j0 k y0 y1 y2 y3) (steelyardlaw14_TreeSame.j0 (k + 1) y0 y1 y2 y3)) ∧ (∀ y0 y1 y2 y3 y4, LeO (steelyardlaw14_TreeSame.l0 k y0 y1 y2 y3 y4) (steelyardlaw14_TreeSame.l0 (k + 1) y0 y1 y2 y3 y4)) ∧ (∀ y0 y1 y2 y3, LeO (steelyardlaw14_TreeSame.j2 k y0 y1 y2 y3) (steelyardlaw14_TreeSame.j2 (k + 1) y0 y1 y2 y3)) ∧ (∀ y0 y1 y2, LeO (steelyardlaw14_TreeSame.j4 k y0 y1 y2) (steelyardlaw14_TreeSame.j4 (k + 1) y0 y1 y2)) ∧ (∀ y0 y1 y2, LeO (steelyardlaw14_TreeSame.j5 k y0 y1 y2) (steelyardlaw14_TreeSame.j5 (k + 1) y0 y1 y2)) ∧ (∀ y0 y1 y2 y3 y4, LeO (steelyardlaw14_TreeSame.j3 k y0 y1 y2 y3 y4) (steelyardlaw14_TreeSame.j3 (k + 1) y0 y1 y2 y3 y4))
  | 0 => ⟨fun _ _ _ _ r h => by simp [steelyardlaw14_TreeSame.j0] at h, fun _ _ _ _ _ r h => by simp [steelyardlaw14_TreeSame.l0] at h, fun _ _ _ _ r h => by simp [steelyardlaw14_TreeSame.j2] at h, fun _ _ _ r h => by simp [steelyardlaw14_TreeSame.j4] at h, fun _ _ _ r h => by simp [steelyardlaw14_TreeSame.j5] at h, fun _ _ _ _ _ r h => by simp [steelyardlaw14_TreeSame.j3] at h⟩
  | k + 1 => by
    obtain ⟨ih0, ih1, ih2, ih3, ih4, ih5⟩ := steelyardlaw14_TreeSame.mono_l k
    refine ⟨?_, ?_, ?_, ?_, ?_, ?_⟩
    · intro y0 y1 y2 y3
      unfold steelyardlaw14_TreeSame.j0
      repeat' first
      | (with_reducible exact ih0 _ _ _ _)
      | (with_reducible exact ih1 _ _ _ _ _)
      | (with_reducible exact ih2 _ _ _ _)
      | (with_reducible exact ih3 _ _ _)
      | (with_reducible exact ih4 _ _ _)
      | (with_reducible exact ih5 _ _ _ _ _)
      | (with_reducible exact steelyardkeep_LargeTree.mono _ _)
      | (with_reducible exact tree_Good.mono _ _)
      | (with_reducible exact LeO.refl _)
      | (with_reducible exact LeO.none _)
      | (with_reducible refine LeO.ite ?_ ?_)
      | (with_reducible refine LeO.bind ?_ (fun _ => ?_))
      | exact ih0 _ _ _ _
      | exact ih1 _ _ _ _ _
      | exact ih2 _ _ _ _
      | exact ih3 _ _ _
      | exact ih4 _ _ _
      | exact ih5 _ _ _ _ _
      | exact steelyardkeep_LargeTree.mono _ _
      | exact tree_Good.mono _ _
      | exact LeO.none _
      | refine LeO.ite ?_ ?_
      | refine LeO.bind ?_ (fun _ => ?_)
    · intro y0 y1 y2 y3 y4
      unfold steelyardlaw14_TreeSame.l0
      repeat' first
      | (with_reducible exact ih0 _ _ _ _)
      | (with_reducible exact ih1 _ _ _ _ _)
      | (with_reducible exact ih2 _ _ _ _)
      | (with_reducible exact ih3 _ _ _)
      | (with_reducible exact ih4 _ _ _)
      | (with_reducible exact ih5 _ _ _ _ _)
      | (with_reducible exact steelyardkeep_LargeTree.mono _ _)
      | (with_reducible exact tree_Good.mono _ _)
      | (with_reducible exact LeO.refl _)
      | (with_reducible exact LeO.none _)
      | (with_reducible refine LeO.ite ?_ ?_)
      | (with_reducible refine LeO.bind ?_ (fun _ => ?_))
      | exact ih0 _ _ _ _
      | exact ih1 _ _ _ _ _
      | exact ih2 _ _ _ _
      | exact ih3 _ _ _
      | exact ih4 _ _ _
      | exact ih5 _ _ _ _ _
      | exact steelyardkeep_LargeTree.mono _ _
      | exact tree_Good.mono _ _
      | exact LeO.none _
      | refine LeO.ite ?_ ?_
      | refine LeO.bind ?_ (fun _ => ?_)
    · intro y0 y1 y2 y3
      unfold steelyardlaw14_TreeSame.j2
      repeat' first
      | (with_reducible exact ih0 _ _ _ _)
      | (with_reducible exact ih1 _ _ _ _ _)
      | (with_reducible exact ih2 _ _ _ _)
      | (with_reducible exact ih3 _ _ _)
      | (with_reducible exact ih4 _ _ _)
      | (with_reducible exact ih5 _ _ _ _ _)
      | (with_reducible exact steelyardkeep_LargeTree.mono _ _)
      | (with_reducible exact tree_Good.mono _ _)
      | (with_reducible exact LeO.refl _)
      | (with_reducible exact LeO.none _)
      | (with_reducible refine LeO.ite ?_ ?_)
      | (with_reducible refine LeO.bind ?_ (fun _ => ?_))
      | exact ih0 _ _ _ _
      | exact ih1 _ _ _ _ _
      | exact ih2 _ _ _ _
      | exact ih3 _ _ _
      | exact ih4 _ _ _
      | exact ih5 _ _ _ _ _
      | exact steelyardkeep_LargeTree.mono _ _
      | exact tree_Good.mono _ _
      | exact LeO.none _
      | refine LeO.ite ?_ ?_
      | refine LeO.bind ?_ (fun _ => ?_)
    · intro y0 y1 y2
      unfold steelyardlaw14_TreeSame.j4
      repeat' first
      | (with_reducible exact ih0 _ _ _ _)
      | (with_reducible exact ih1 _ _ _ _ _)
      | (with_reducible exact ih2 _ _ _ _)
      | (with_reducible exact ih3 _ _ _)
      | (with_reducible exact ih4 _ _ _)
      | (with_reducible exact ih5 _ _ _ _ _)
      | (with_reducible exact steelyardkeep_LargeTree.mono _ _)
      | (with_reducible exact tree_Good.mono _ _)
      | (with_reducible exact LeO.refl _)
      | (with_reducible exact LeO.none _)
      | (with_reducible refine LeO.ite ?_ ?_)
      | (with_reducible refine LeO.bind ?_ (fun _ => ?_))
      | exact ih0 _ _ _ _
      | exact ih1 _ _ _ _ _
      | exact ih2 _ _ _ _
      | exact ih3 _ _ _
      | exact ih4 _ _ _
      | exact ih5 _ _ _ _ _
      | exact steelyardkeep_LargeTree.mono _ _
      | exact tree_Good.mono _ _
      | exact LeO.none _
      | refine LeO.ite ?_ ?_
      | refine LeO.bind ?_ (fun _ => ?_)
    · intro y0 y1 y2
      unfold steelyardlaw14_TreeSame.j5
      repeat' first
      | (with_reducible exact ih0 _ _ _ _)
      | (with_reducible exact ih1 _ _ _ _ _)
      | (with_reducible exact ih2 _ _ _ _)
      | (with_reducible exact ih3 _ _ _)
      | (with_reducible exact ih4 _ _ _)
      | (with_reducible exact ih5 _ _ _ _ _)
      | (with_reducible exact steelyardkeep_LargeTree.mono _ _)
      | (with_reducible exact tree_Good.mono _ _)
      | (with_reducible exact LeO.refl _)
      | (with_reducible exact LeO.none _)
      | (with_reducible refine LeO.ite ?_ ?_)
      | (with_reducible refine LeO.bind ?_ (fun _ => ?_))
      | exact ih0 _ _ _ _
      | exact ih1 _ _ _ _ _
      | exact ih2 _ _ _ _
      | exact ih3 _ _ _
      | exact ih4 _ _ _
      | exact ih5 _ _ _ _ _
      | exact steelyardkeep_LargeTree.mono _ _
      | exact tree_Good.mono _ _
      | exact LeO.none _
      | refine LeO.ite ?_ ?_
      | refine LeO.bind ?_ (fun _ => ?_)
    · intro y0 y1 y2 y3 y4
      unfold steelyardlaw14_TreeSame.j3
      repeat' first
      | (with_reducible exact ih0 _ _ _ _)
      | (with_reducible exact ih1 _ _ _ _ _)
      | (with_reducible exact ih2 _ _ _ _)
      | (with_reducible exact ih3 _ _ _)
      | (with_reducible exact ih4 _ _ _)
      | (with_reducible exact ih5 _ _ _ _ _)
      | (with_reducible exact steelyardkeep_LargeTree.mono _ _)
      | (with_reducible exact tree_Good.mono _ _)
      | (with_reducible exact LeO.refl _)
      | (with_reducible exact LeO.none _)
      | (with_reducible refine LeO.ite ?_ ?_)
      | (with_reducible refine LeO.bind ?_ (fun _ => ?_))
      | exact ih0 _ _ _ _
      | exact ih1 _ _ _ _ _
      | exact ih2 _ _ _ _
      | exact ih3 _ _ _
      | exact ih4 _ _ _
      | exact ih5 _ _ _ _ _
      | exact steelyardkeep_LargeTree.mono _ _
      | exact tree_Good.mono _ _
      | exact LeO.none _
      | refine LeO.ite ?_ ?_
      | refine LeO.bind ?_ (fun _ => ?_)
theorem steelyardlaw14_TreeSame.mono : ∀ a0 a1 a2 k, LeO (steelyardlaw14_TreeSame.f k a0 a1 a2) (steelyardlaw14_TreeSame.f (k + 1) a0 a1 a2) := by
  intro a0 a1 a2 k
  obtain ⟨ih0, ih1, ih2, ih3, ih4, ih5⟩ := steelyardlaw14_TreeSame.mono_l k
  unfold steelyardlaw14_TreeSame.f
  repeat' first
      | (with_reducible exact ih0 _ _ _ _)
      | (with_reducible exact ih1 _ _ _ _ _)
      | (with_reducible exact ih2 _ _ _ _)
      | (with_reducible exact ih3 _ _ _)
      | (with_reducible exact ih4 _ _ _)
      | (with_reducible exact ih5 _ _ _ _ _)
      | (with_reducible exact steelyardkeep_LargeTree.mono _ _)
      | (with_reducible exact tree_Good.mono _ _)
      | (with_reducible exact LeO.refl _)
      | (with_reducible exact LeO.none _)
      | (with_reducible refine LeO.ite ?_ ?_)
      | (with_reducible refine LeO.bind ?_ (fun _ => ?_))
      | exact ih0 _ _ _ _
      | exact ih1 _ _ _ _ _
      | exact ih2 _ _ _ _
      | exact ih3 _ _ _
      | exact ih4 _ _ _
      | exact ih5 _ _ _ _ _
      | exact steelyardkeep_LargeTree.mono _ _
      | exact tree_Good.mono _ _
      | exact LeO.none _
      | refine LeO.ite ?_ ?_
      | refine LeO.bind ?_ (fun _ => ?_)
set_option maxHeartbeats 8000000 in
set_option maxRecDepth 100000 in
theorem steelyardlaw14_TreeSame.calls (k : Nat) (A0 : Option Addr) (c0 : Nat) (l0 : List (S52)) (a1 : Int) (a2 : Int) (r : Bool) (w : World) (hr0 : Kd.C k52 w A0 l0.length l0) (hc0 : l0.length ≤ c0) (h : steelyardlaw14_TreeSame.f k l0 a1 a2 = some r) (hG_ : Glob w) :
    Calls Tryd.prog 9 #[.slice A0 l0.length c0, .int .u8 a1, .int .i64 a2] w fun e w' => e = .returned (.bool r) ∧ Below w.heap.size w w' := by
  have HG_ := Aside0.mk hG_
  clear hG_
  have HR0 := Aside0.mk hr0
  have HC0 := Aside0.mk hc0
  clear hr0 hc0
  have HB := Aside0.mk (Below.refl w.heap.size w)
  have H : ((steelyardkeep_LargeTree.f k l0).bind fun t382 => (if t382 = true then (steelyardlaw14_TreeSame.j0 k l0 a1 a2 true) else ((steelyardref14_Good.f l0).bind fun t383 => (steelyardlaw14_TreeSame.j0 k l0 a1 a2 (!t383))))) = some r := h
  clear h
  have HC4 := Aside0.mk H
  clear H
  go_enter Tryd.func9, Tryd.ntmps9
  go_upto_region 1 with (fail)
  repeat (go_quiet (fail); go_upto_region 1 with (fail))
  go_cut [16] (fun v16 wc => ∃ (kq : Nat) (x16_3 : Bool), v16 = .bool x16_3 ∧ Aside0 (steelyardlaw14_TreeSame.j0 kq l0 a1 a2 x16_3 = some r) ∧ Aside0 (kq ≤ k) ∧ Aside0 (Below w.heap.size w wc))
  case first =>
    have H := HC4.out
    clear HC4
    replace H := Option.bind_eq_some_iff.mp H
    obtain ⟨t382, A50, H⟩ := H
    replace H : (if t382 = true then (steelyardlaw14_TreeSame.j0 k l0 a1 a2 true) else ((steelyardref14_Good.f l0).bind fun t383 => (steelyardlaw14_TreeSame.j0 k l0 a1 a2 (!t383)))) = some r := H
    have A5 := Aside0.mk A50
    clear A50
    by_cases c6 : t382 = true
    · subst c6
      have H1 : (steelyardlaw14_TreeSame.j0 k l0 a1 a2 true) = some r := by rw [if_pos rfl] at H; exact H
      clear H
      have H := H1
      clear H1
      have H' := Aside0.mk H
      clear H
      go_wp2_with (first | (go_at_call 22; (with_reducible refine (steelyardkeep_LargeTree.calls k _ _ l0 true _ ?side1 ?side2 A5.out).mono ?_); (case side1 => repeat (first | exact (Kd.C_below HR0.out HB.out) | (with_reducible refine Kd.C_alloc ?_ _) | (with_reducible refine Kd.C_drewN ?_ _) | (with_reducible refine Kd.C_drew ?_))); (case side2 => exact HC0.out); rintro e w7 ⟨rfl, hb⟩; have n0_ := Aside0.mk (below_step (by repeat (first | (with_reducible first | exact HB.out | apply below_alloc | apply pw_below_drewN | apply below_drew1) | exact HB.out)) hb); clear HB; have HB := n0_; clear n0_; (try clear hb); (try clear hb2); (try clear hk); (try clear hi)))
      repeat (go_quiet (first | (go_at_call 22; (with_reducible refine (steelyardkeep_LargeTree.calls k _ _ l0 true _ ?side1 ?side2 A5.out).mono ?_); (case side1 => repeat (first | exact (Kd.C_below HR0.out HB.out) | (with_reducible refine Kd.C_alloc ?_ _) | (with_reducible refine Kd.C_drewN ?_ _) | (with_reducible refine Kd.C_drew ?_))); (case side2 => exact HC0.out); rintro e w7 ⟨rfl, hb⟩; have n0_ := Aside0.mk (below_step (by repeat (first | (with_reducible first | exact HB.out | apply below_alloc | apply pw_below_drewN | apply below_drew1) | exact HB.out)) hb); clear HB; have HB := n0_; clear n0_; (try clear hb); (try clear hb2); (try clear hk); (try clear hi))); try go_wp2_with (first | (go_at_call 22; (with_reducible refine (steelyardkeep_LargeTree.calls k _ _ l0 true _ ?side1 ?side2 A5.out).mono ?_); (case side1 => repeat (first | exact (Kd.C_below HR0.out HB.out) | (with_reducible refine Kd.C_alloc ?_ _) | (with_reducible refine Kd.C_drewN ?_ _) | (with_reducible refine Kd.C_drew ?_))); (case side2 => exact HC0.out); rintro e w7 ⟨rfl, hb⟩; have n0_ := Aside0.mk (below_step (by repeat (first | (with_reducible first | exact HB.out | apply below_alloc | apply pw_below_drewN | apply below_drew1) | exact HB.out)) hb); clear HB; have HB := n0_; clear n0_; (try clear hb); (try clear hb2); (try clear hk); (try clear hi))))
      go_meet
      case rel => exact ⟨_, (true), (by first | rfl | (simp; done) | (simp [*]; done)), H', ⟨by first | omega | exact Nat.le_refl _⟩, ⟨by repeat (first | (with_reducible first | exact HB.out | apply below_alloc | apply pw_below_drewN | apply below_drew1) | exact HB.out)⟩⟩
    · replace c6 := Bool.eq_false_iff.mpr c6
      subst c6
      have H1 : ((steelyardref14_Good.f l0).bind fun t383 => (steelyardlaw14_TreeSame.j0 k l0 a1 a2 (!t383))) = some r := by rw [if_neg (show ¬ (false = true) by decide)] at H; exact H
      clear H
      have H := H1
      clear H1
      replace H := Option.bind_eq_some_iff.mp H
      obtain ⟨t383, A80, H⟩ := H
      replace H : (steelyardlaw14_TreeSame.j0 k l0 a1 a2 (!t383)) = some r := H
      have A8 := Aside0.mk A80
      clear A80
      have H' := Aside0.mk H
      clear H
      go_wp2_with (first | (go_at_call 22; (with_reducible refine (steelyardkeep_LargeTree.calls k _ _ l0 false _ ?side1 ?side2 A5.out).mono ?_); (case side1 => repeat (first | exact (Kd.C_below HR0.out HB.out) | (with_reducible refine Kd.C_alloc ?_ _) | (with_reducible refine Kd.C_drewN ?_ _) | (with_reducible refine Kd.C_drew ?_))); (case side2 => exact HC0.out); rintro e w9 ⟨rfl, hb⟩; have n0_ := Aside0.mk (below_step (by repeat (first | (with_reducible first | exact HB.out | apply below_alloc | apply pw_below_drewN | apply below_drew1) | exact HB.out)) hb); clear HB; have HB := n0_; clear n0_; (try clear hb); (try clear hb2); (try clear hk); (try clear hi)) | (go_at_call 34; (with_reducible refine (steelyardref14_Good.calls _ _ l0 t383 _ ?side1 ?side2 A8.out).mono ?_); (case side1 => repeat (first | exact (Kd.C_below HR0.out HB.out) | (with_reducible refine Kd.C_alloc ?_ _) | (with_reducible refine Kd.C_drewN ?_ _) | (with_reducible refine Kd.C_drew ?_))); (case side2 => exact HC0.out); rintro e w10 ⟨rfl, hb⟩; have n0_ := Aside0.mk (below_step (by repeat (first | (with_reducible first | exact HB.out | apply below_alloc | apply pw_below_drewN | apply below_drew1) | exact HB.out)) hb); clear HB; have HB := n0_; clear n0_; (try clear hb); (try clear hb2); (try clear hk); (try clear hi)))
      repeat (go_quiet (first | (go_at_call 22; (with_reducible refine (steelyardkeep_LargeTree.calls k _ _ l0 false _ ?side1 ?side2 A5.out).mono ?_); (case side1 => repeat (first | exact (Kd.C_below HR0.out HB.out) | (with_reducible refine Kd.C_alloc ?_ _) | (with_reducible refine Kd.C_drewN ?_ _) | (with_reducible refine Kd.C_drew ?_))); (case side2 => exact HC0.out); rintro e w9 ⟨rfl, hb⟩; have n0_ := Aside0.mk (below_step (by repeat (first | (with_reducible first | exact HB.out | apply below_alloc | apply pw_below_drewN | apply below_drew1) | exact HB.out)) hb); clear HB; have HB := n0_; clear n0_; (try clear hb); (try clear hb2); (try clear hk); (try clear hi)) | (go_at_call 34; (with_reducible refine (steelyardref14_Good.calls _ _ l0 t383 _ ?side1 ?side2 A8.out).mono ?_); (case side1 => repeat (first | exact (Kd.C_below HR0.out HB.out) | (with_reducible refine Kd.C_alloc ?_ _) | (with_reducible refine Kd.C_drewN ?_ _) | (with_reducible refine Kd.C_drew ?_))); (case side2 => exact HC0.out); rintro e w10 ⟨rfl, hb⟩; have n0_ := Aside0.mk (below_step (by repeat (first | (with_reducible first | exact HB.out | apply below_alloc | apply pw_below_drewN | apply below_drew1) | exact HB.out)) hb); clear HB; have HB := n0_; clear n0_; (try clear hb); (try clear hb2); (try clear hk); (try clear hi))); try go_wp2_with (first | (go_at_call 22; (with_reducible refine (steelyardkeep_LargeTree.calls k _ _ l0 false _ ?side1 ?side2 A5.out).mono ?_); (case side1 => repeat (first | exact (Kd.C_below HR0.out HB.out) | (with_reducible refine Kd.C_alloc ?_ _) | (with_reducible refine Kd.C_drewN ?_ _) | (with_reducible refine Kd.C_drew ?_))); (case side2 => exact HC0.out); rintro e w9 ⟨rfl, hb⟩; have n0_ := Aside0.mk (below_step (by repeat (first | (with_reducible first | exact HB.out | apply below_alloc | apply pw_below_drewN | apply below_drew1) | exact HB.out)) hb); clear HB; have HB := n0_; clear n0_; (try clear hb); (try clear hb2); (try clear hk); (try clear hi)) | (go_at_call 34; (with_reducible refine (steelyardref14_Good.calls _ _ l0 t383 _ ?side1 ?side2 A8.out).mono ?_); (case side1 => repeat (first | exact (Kd.C_below HR0.out HB.out) | (with_reducible refine Kd.C_alloc ?_ _) | (with_reducible refine Kd.C_drewN ?_ _) | (with_reducible refine Kd.C_drew ?_))); (case side2 => exact HC0.out); rintro e w10 ⟨rfl, hb⟩; have n0_ := Aside0.mk (below_step (by repeat (first | (with_reducible first | exact HB.out | apply below_alloc | apply pw_below_drewN | apply below_drew1) | exact HB.out)) hb); clear HB; have HB := n0_; clear n0_; (try clear hb); (try clear hb2); (try clear hk); (try clear hi))))
      go_meet
      case rel => exact ⟨_, (!t383), (by first | rfl | (simp; done) | (simp [*]; done)), H', ⟨by first | omega | exact Nat.le_refl _⟩, ⟨by repeat (first | (with_reducible first | exact HB.out | apply below_alloc | apply pw_below_drewN | apply below_drew1) | exact HB.out)⟩⟩
  case rest =>
    clear HC4
    try clear p2
    try clear c6
    try clear c9
    obtain ⟨kq, x16_3, rfl, HA, HJ3, HB⟩ := hcut
    cases kq with
    | zero => exact absurd HA.out (by simp [steelyardlaw14_TreeSame.j0])
    | succ kj3 =>
      have H := HA.out
      clear HA
      simp only [steelyardlaw14_TreeSame.j0] at H
      by_cases c11 : x16_3 = true
      · subst c11
        have H1 : ((steelyardlaw14_wakes.f).bind fun t384 => (some t384)) = some r := by rw [if_pos rfl] at H; exact H
        clear H
        have H := H1
        clear H1
        replace H := Option.bind_eq_some_iff.mp H
        obtain ⟨t384, A120, H⟩ := H
        replace H : (some t384) = some r := H
        have A12 := Aside0.mk A120
        clear A120
        obtain rfl := Option.some.inj H
        go_wp2_with (first | (go_at_call 23; (with_reducible refine (steelyardlaw14_wakes.calls  t384 _ A12.out ?sideG_).mono ?_); (case sideG_ => (first | (with_reducible exact HG_.out) | exact HG_.out.below (by repeat (first | (with_reducible first | exact HB.out | apply below_alloc | apply pw_below_drewN | apply below_drew1) | exact HB.out)))); rintro e w13 ⟨rfl, hb⟩; have n0_ := Aside0.mk (below_step (by repeat (first | (with_reducible first | exact HB.out | apply below_alloc | apply pw_below_drewN | apply below_drew1) | exact HB.out)) hb); clear HB; have HB := n0_; clear n0_; (try clear hb); (try clear hb2); (try clear hk); (try clear hi)))
        repeat (go_quiet (first | (go_at_call 23; (with_reducible refine (steelyardlaw14_wakes.calls  t384 _ A12.out ?sideG_).mono ?_); (case sideG_ => (first | (with_reducible exact HG_.out) | exact HG_.out.below (by repeat (first | (with_reducible first | exact HB.out | apply below_alloc | apply pw_below_drewN | apply below_drew1) | exact HB.out)))); rintro e w13 ⟨rfl, hb⟩; have n0_ := Aside0.mk (below_step (by repeat (first | (with_reducible first | exact HB.out | apply below_alloc | apply pw_below_drewN | apply below_drew1) | exact HB.out)) hb); clear HB; have HB := n0_; clear n0_; (try clear hb); (try clear hb2); (try clear hk); (try clear hi))); try go_wp2_with (first | (go_at_call 23; (with_reducible refine (steelyardlaw14_wakes.calls  t384 _ A12.out ?sideG_).mono ?_); (case sideG_ => (first | (with_reducible exact HG_.out) | exact HG_.out.below (by repeat (first | (with_reducible first | exact HB.out | apply below_alloc | apply pw_below_drewN | apply below_drew1) | exact HB.out)))); rintro e w13 ⟨rfl, hb⟩; have n0_ := Aside0.mk (below_step (by repeat (first | (with_reducible first | exact HB.out | apply below_alloc | apply pw_below_drewN | apply below_drew1) | exact HB.out)) hb); clear HB; have HB := n0_; clear n0_; (try clear hb); (try clear hb2); (try clear hk); (try clear hi))))
        go_ret
        exact ⟨by first | rfl | (simp [errW_none, errW_some] <;> rfl) | (simp [*, errW_none, errW_some] <;> rfl), by repeat (first | (with_reducible first | exact HB.out | apply below_alloc | apply pw_below_drewN | apply below_drew1) | exact HB.out)⟩
      · replace c11 := Bool.eq_false_iff.mpr c11
        subst c11
        have H1 : ((steelyardkeep_OwnTree.f l0).bind fun t385 => (steelyardlaw14_TreeSame.l0 kj3 l0 a1 a2 t385 0)) = some r := by rw [if_neg (show ¬ (false = true) by decide)] at H; exact H
        clear H
        have H := H1
        clear H1
        replace H := Option.bind_eq_some_iff.mp H
        obtain ⟨t385, A140, H⟩ := H
        replace H : (steelyardlaw14_TreeSame.l0 kj3 l0 a1 a2 t385 0) = some r := H
        have A14 := Aside0.mk A140
        clear A140
        have H' := Aside0.mk H
        clear H
        go_wp2_with (first | (go_at_call 24; (with_reducible refine (steelyardkeep_OwnTree.calls _ _ l0 t385 _ ?side1 ?side2 A14.out).mono ?_); (case side1 => repeat (first | exact (Kd.C_below HR0.out HB.out) | (with_reducible refine Kd.C_alloc ?_ _) | (with_reducible refine Kd.C_drewN ?_ _) | (with_reducible refine Kd.C_drew ?_))); (case side2 => exact HC0.out); rintro e w15 ⟨v386, rfl, ho0, hb⟩; have n0_ := Aside0.mk (Kd.R_lower ho0 (below_size (by repeat (first | (with_reducible first | exact HB.out | apply below_alloc | apply pw_below_drewN | apply below_drew1) | exact HB.out)))); have n1_ := Aside0.mk (below_step (by repeat (first | (with_reducible first | exact HB.out | apply below_alloc | apply pw_below_drewN | apply below_drew1) | exact HB.out)) hb); clear HB; have HO387 := n0_; have HB := n1_; clear n0_ n1_; (try clear hb); (try clear hb2); (try clear hk); (try clear hi); (try clear ho0)))
        repeat (go_quiet (first | (go_at_call 24; (with_reducible refine (steelyardkeep_OwnTree.calls _ _ l0 t385 _ ?side1 ?side2 A14.out).mono ?_); (case side1 => repeat (first | exact (Kd.C_below HR0.out HB.out) | (with_reducible refine Kd.C_alloc ?_ _) | (with_reducible refine Kd.C_drewN ?_ _) | (with_reducible refine Kd.C_drew ?_))); (case side2 => exact HC0.out); rintro e w15 ⟨v386, rfl, ho0, hb⟩; have n0_ := Aside0.mk (Kd.R_lower ho0 (below_size (by repeat (first | (with_reducible first | exact HB.out | apply below_alloc | apply pw_below_drewN | apply below_drew1) | exact HB.out)))); have n1_ := Aside0.mk (below_step (by repeat (first | (with_reducible first | exact HB.out | apply below_alloc | apply pw_below_drewN | apply below_drew1) | exact HB.out)) hb); clear HB; have HO387 := n0_; have HB := n1_; clear n0_ n1_; (try clear hb); (try clear hb2); (try clear hk); (try clear hi); (try clear ho0))); try go_wp2_with (first | (go_at_call 24; (with_reducible refine (steelyardkeep_OwnTree.calls _ _ l0 t385 _ ?side1 ?side2 A14.out).mono ?_); (case side1 => repeat (first | exact (Kd.C_below HR0.out HB.out) | (with_reducible refine Kd.C_alloc ?_ _) | (with_reducible refine Kd.C_drewN ?_ _) | (with_reducible refine Kd.C_drew ?_))); (case side2 => exact HC0.out); rintro e w15 ⟨v386, rfl, ho0, hb⟩; have n0_ := Aside0.mk (Kd.R_lower ho0 (below_size (by repeat (first | (with_reducible first | exact HB.out | apply below_alloc | apply pw_below_drewN | apply below_drew1) | exact HB.out)))); have n1_ := Aside0.mk (below_step (by repeat (first | (with_reducible first | exact HB.out | apply below_alloc | apply pw_below_drewN | apply below_drew1) | exact HB.out)) hb); clear HB; have HO387 := n0_; have HB := n1_; clear n0_ n1_; (try clear hb); (try clear hb2); (try clear hk); (try clear hi); (try clear ho0))))
        go_loopg [8] kj3 (fun kq v8 w' => ∃ (x7_2 : List (S52)) (x8_2 : Int), v8 = .int .i64 x8_2 ∧ Aside0 (steelyardlaw14_TreeSame.l0 kq l0 a1 a2 x7_2 x8_2 = some r) ∧ Aside0 (kq ≤ kj3) ∧ Aside0 (Kd.R k52 52 w' w.heap.size (fun _ => True) v386 x7_2) ∧ Aside0 (Below w.heap.size w w'))
        case atStart => exact ⟨(t385), (0), (by first | rfl | (simp; done) | (simp [*]; done)), H', ⟨Nat.le_refl _⟩, ⟨by (with_reducible repeat (first | apply Kd.R_alloc | apply Kd.R_drewN | apply Kd.R_drew)); exact HO387.out⟩, ⟨by repeat (first | (with_reducible first | exact HB.out | apply below_alloc | apply pw_below_drewN | apply below_drew1) | exact HB.out)⟩⟩
        case round =>
          clear H'
          try clear c1
          try clear p2
          try clear c6
          try clear c9
          try clear c11
          try clear p2
          obtain ⟨x7_2, x8_2, rfl, HA, HK2, HO_7, HB⟩ := hrel
          cases gk with
          | zero => exact absurd HA.out (by simp [steelyardlaw14_TreeSame.l0])
          | succ k2 =>
            have H := HA.out
            clear HA
            simp only [steelyardlaw14_TreeSame.l0] at H
            by_cases c16 : x8_2 < (x7_2.length : Int)
            · rw [if_pos c16] at H
              have c16b0 : decide (x8_2 < (x7_2.length : Int)) = true := decide_eq_true c16
              clear c16
              by_cases c17 : 0 ≤ x8_2
              · rw [if_pos c17] at H
                have c17b0 : decide (0 ≤ x8_2) = true := decide_eq_true c17
                clear c17
                obtain ⟨y388, hy388⟩ : ∃ y_ : List (S52), y_ = (x7_2.set (x8_2 : Int).toNat (⟨(rd_T52 x7_2 x8_2).f0, (rd_T52 x7_2 x8_2).f1, (rd_T52 x7_2 x8_2).f2, (rd_T52 x7_2 x8_2).f3, (rd_T52 x7_2 x8_2).f4, (rd_T52 x7_2 x8_2).f5, a2⟩ : S52)) := ⟨_, rfl⟩
                replace H : (steelyardlaw14_TreeSame.l0 k2 l0 a1 a2 y388 (wrap64 (x8_2 + 1))) = some r := by first | (rw [hy388]; with_reducible exact H) | (have H2_ := (Option.bind_some _ _).symm.trans H; rw [hy388]; with_reducible exact H2_) | (have H2_ := (Option.bind_some _ _).symm.trans H; with_reducible exact H2_) | with_reducible exact H | (rw [hy388]; exact H) | exact H
                have Ny388 := Aside0.mk hy388
                clear hy388
                have H' := Aside0.mk H
                clear H
                obtain ⟨Ao19, co19, eo19⟩ := Kd.R_slice HO_7.out
                subst eo19
                have p18 : 0 ≤ (x8_2 : Int) := of_decide_eq_true (by first | (with_reducible assumption) | assumption)
                have q18 : (x8_2 : Int) < ((x7_2.length : Int) : Int) := of_decide_eq_true (by first | (with_reducible assumption) | assumption)
                obtain ⟨go18, co18, eo18, gb18, gl18, cl18, HG18⟩ := Kd.R_form HO_7.out (by omega)
                (first | cases eo18 | (injection eo18 with ea_ en_ ec_; (first | subst ea_ | (injection ea_ with ea_; subst ea_)); subst ec_; clear en_))
                have GB18 := Aside0.mk gb18
                have GG18 := Aside0.mk HG18
                clear gb18 gl18 HG18
                obtain ⟨ce18, hcl18, hM18, hcc18, hfr18⟩ := Kd.R_elem HO_7.out z52 (x8_2 : Int) p18 q18
                obtain rfl := k52_openM hM18
                have hx18_0 : wr.cell? ⟨go18, (x8_2 : Int).toNat * 7, none⟩ = some (.int .i64 ((rd_T52 x7_2 x8_2).f0)) := hcc18 0 _ rfl
                have hx18_1 : wr.cell? ⟨go18, (x8_2 : Int).toNat * 7 + 1, none⟩ = some (.int .i64 ((rd_T52 x7_2 x8_2).f1)) := hcc18 1 _ rfl
                have hx18_2 : wr.cell? ⟨go18, (x8_2 : Int).toNat * 7 + 2, none⟩ = some (.int .i64 ((rd_T52 x7_2 x8_2).f2)) := hcc18 2 _ rfl
                have hx18_3 : wr.cell? ⟨go18, (x8_2 : Int).toNat * 7 + 3, none⟩ = some (.int .i64 ((rd_T52 x7_2 x8_2).f3)) := hcc18 3 _ rfl
                have hx18_4 : wr.cell? ⟨go18, (x8_2 : Int).toNat * 7 + 4, none⟩ = some (.string ((rd_T52 x7_2 x8_2).f4)) := hcc18 4 _ rfl
                have hx18_5 : wr.cell? ⟨go18, (x8_2 : Int).toNat * 7 + 5, none⟩ = some (.string ((rd_T52 x7_2 x8_2).f5)) := hcc18 5 _ rfl
                have hx18_6 : wr.cell? ⟨go18, (x8_2 : Int).toNat * 7 + 6, none⟩ = some (.int .i64 ((rd_T52 x7_2 x8_2).f6)) := hcc18 6 _ rfl
                have hf18_0 : wr.frozen? ⟨go18, (x8_2 : Int).toNat * 7, none⟩ = false := hfr18 0
                have hf18_1 : wr.frozen? ⟨go18, (x8_2 : Int).toNat * 7 + 1, none⟩ = false := hfr18 1
                have hf18_2 : wr.frozen? ⟨go18, (x8_2 : Int).toNat * 7 + 2, none⟩ = false := hfr18 2
                have hf18_3 : wr.frozen? ⟨go18, (x8_2 : Int).toNat * 7 + 3, none⟩ = false := hfr18 3
                have hf18_4 : wr.frozen? ⟨go18, (x8_2 : Int).toNat * 7 + 4, none⟩ = false := hfr18 4
                have hf18_5 : wr.frozen? ⟨go18, (x8_2 : Int).toNat * 7 + 5, none⟩ = false := hfr18 5
                have hf18_6 : wr.frozen? ⟨go18, (x8_2 : Int).toNat * 7 + 6, none⟩ = false := hfr18 6
                clear hcl18 hcc18 hfr18 hM18
                replace p18 := eq_true p18
                replace q18 := eq_true q18
                have HX20 := Aside0.mk (show Kd.R k52 52 wr w.heap.size (fun _ => True) (.slice (some ⟨go18, 0, none⟩) x7_2.length co19) x7_2 from (by (with_reducible repeat (first | apply Kd.R_alloc | apply Kd.R_drewN | apply Kd.R_drew)); exact HO_7.out))
                obtain ⟨ce20, hcl20, hM20, hcc20, hfr20⟩ := Kd.R_elem HX20.out z52 (x8_2 : Int) (of_decide_eq_true (by first | (with_reducible assumption) | assumption)) (by have h_ : (x8_2 : Int) < ((x7_2.length : Int) : Int) := of_decide_eq_true (by first | (with_reducible assumption) | assumption); first | exact h_ | (have e_ := (Kd.R_reads' HO_7.out).1; omega) | simpa using h_)
                obtain rfl := k52_openM hM20
                have HP20 := Kd.R_seg HX20.out (x8_2 : Int) (of_decide_eq_true (by first | (with_reducible assumption) | assumption)) (by have h_ : (x8_2 : Int) < ((x7_2.length : Int) : Int) := of_decide_eq_true (by first | (with_reducible assumption) | assumption); first | exact h_ | (have e_ := (Kd.R_reads' HO_7.out).1; omega) | simpa using h_) (seg := [.int .i64 a2]) (j := 6) hcl20 hcc20 (show 7 ≤ 7 from by decide) (x' := (⟨(rd_T52 x7_2 x8_2).f0, (rd_T52 x7_2 x8_2).f1, (rd_T52 x7_2 x8_2).f2, (rd_T52 x7_2 x8_2).f3, (rd_T52 x7_2 x8_2).f4, (rd_T52 x7_2 x8_2).f5, a2⟩ : S52)) (k52_mkM _ _ _ (⟨(rd_T52 x7_2 x8_2).f0, (rd_T52 x7_2 x8_2).f1, (rd_T52 x7_2 x8_2).f2, (rd_T52 x7_2 x8_2).f3, (rd_T52 x7_2 x8_2).f4, (rd_T52 x7_2 x8_2).f5, a2⟩ : S52) ) (fun _ hk => hk)
                have hx20_6 := hcc20 6 _ rfl
                (try simp only [show (k52).sz = 7 from rfl, Nat.mul_one, Nat.add_zero] at hx20_6)
                have hf20_6 := hfr20 6
                (try simp only [show (k52).sz = 7 from rfl, Nat.mul_one, Nat.add_zero] at hf20_6)
                clear hcl20 hcc20 hfr20 hM20
                go_wp2_with (first | ((with_reducible refine gate_store (t := 3) (p := 30) rfl ?_); (try (rw [drewN_self wr]; generalize hq_ : World.drewN wr _ = wr; have n0_ := Aside0.mk (Kd.R_at hq_ HO_7.out); have n1_ := Aside0.mk (below_at hq_ HB.out); clear hq_ HO_7 HB; have HO_7 := n0_; have HB := n1_; clear n0_ n1_; (try (have HX20 := Aside0.mk (show Kd.R k52 52 wr w.heap.size (fun _ => True) (.slice (some ⟨go18, 0, none⟩) x7_2.length co19) x7_2 from (by (with_reducible repeat (first | apply Kd.R_alloc | apply Kd.R_drewN | apply Kd.R_drew)); exact HO_7.out)))); (try (obtain ⟨ce20, hcl20, hM20, hcc20, hfr20⟩ := Kd.R_elem HX20.out z52 (x8_2 : Int) (of_decide_eq_true (by first | (with_reducible assumption) | assumption)) (by have h_ : (x8_2 : Int) < ((x7_2.length : Int) : Int) := of_decide_eq_true (by first | (with_reducible assumption) | assumption); first | exact h_ | (have e_ := (Kd.R_reads' HO_7.out).1; omega) | simpa using h_))); (try (obtain rfl := k52_openM hM20)); (try (have HP20 := Kd.R_seg HX20.out (x8_2 : Int) (of_decide_eq_true (by first | (with_reducible assumption) | assumption)) (by have h_ : (x8_2 : Int) < ((x7_2.length : Int) : Int) := of_decide_eq_true (by first | (with_reducible assumption) | assumption); first | exact h_ | (have e_ := (Kd.R_reads' HO_7.out).1; omega) | simpa using h_) (seg := [.int .i64 a2]) (j := 6) hcl20 hcc20 (show 7 ≤ 7 from by decide) (x' := (⟨(rd_T52 x7_2 x8_2).f0, (rd_T52 x7_2 x8_2).f1, (rd_T52 x7_2 x8_2).f2, (rd_T52 x7_2 x8_2).f3, (rd_T52 x7_2 x8_2).f4, (rd_T52 x7_2 x8_2).f5, a2⟩ : S52)) (k52_mkM _ _ _ (⟨(rd_T52 x7_2 x8_2).f0, (rd_T52 x7_2 x8_2).f1, (rd_T52 x7_2 x8_2).f2, (rd_T52 x7_2 x8_2).f3, (rd_T52 x7_2 x8_2).f4, (rd_T52 x7_2 x8_2).f5, a2⟩ : S52) ) (fun _ hk => hk))); (try (have hx20_6 := hcc20 6 _ rfl)); (try (try simp only [show (k52).sz = 7 from rfl, Nat.mul_one, Nat.add_zero] at hx20_6)); (try (have hf20_6 := hfr20 6)); (try (try simp only [show (k52).sz = 7 from rfl, Nat.mul_one, Nat.add_zero] at hf20_6)); (try (clear hcl20 hcc20 hfr20 hM20)))); refine store_event (t := 3) (p := 30) (v := ?vo_w21) (w1 := (wr.setCell ⟨go18, (x8_2 : Int).toNat * 7 + 6, none⟩ (.int .i64 a2))) ?hg ?ho ?hn ?hr ?_; (case ho => rfl); (case hg => rfl); (case hn => rfl); (case hr => first | (go_simp; done) | (go_simp; rfl)); intro w21 hw; have hg : wr.grownBy w21 (some go18) := (by rw [hw]; exact HP20.2); have hp_ : Kd.R k52 52 w21 w.heap.size (fun _ => True) (.slice (some ⟨go18, 0, none⟩) x7_2.length co19) y388 := (by rw [hw, Ny388.out]; exact HP20.1); clear HP20; have n0_ := Aside0.mk (hp_); have n1_ := Aside0.mk ((by rw [hw]; exact below_set (HB.out) GB18.out : Below w.heap.size w w21)); clear HO_7; clear HB; have HO_7 := n0_; have HB := n1_; clear n0_ n1_; clear hg hw hp_))
                repeat (go_quiet (first | ((with_reducible refine gate_store (t := 3) (p := 30) rfl ?_); (try (rw [drewN_self wr]; generalize hq_ : World.drewN wr _ = wr; have n0_ := Aside0.mk (Kd.R_at hq_ HO_7.out); have n1_ := Aside0.mk (below_at hq_ HB.out); clear hq_ HO_7 HB; have HO_7 := n0_; have HB := n1_; clear n0_ n1_; (try (have HX20 := Aside0.mk (show Kd.R k52 52 wr w.heap.size (fun _ => True) (.slice (some ⟨go18, 0, none⟩) x7_2.length co19) x7_2 from (by (with_reducible repeat (first | apply Kd.R_alloc | apply Kd.R_drewN | apply Kd.R_drew)); exact HO_7.out)))); (try (obtain ⟨ce20, hcl20, hM20, hcc20, hfr20⟩ := Kd.R_elem HX20.out z52 (x8_2 : Int) (of_decide_eq_true (by first | (with_reducible assumption) | assumption)) (by have h_ : (x8_2 : Int) < ((x7_2.length : Int) : Int) := of_decide_eq_true (by first | (with_reducible assumption) | assumption); first | exact h_ | (have e_ := (Kd.R_reads' HO_7.out).1; omega) | simpa using h_))); (try (obtain rfl := k52_openM hM20)); (try (have HP20 := Kd.R_seg HX20.out (x8_2 : Int) (of_decide_eq_true (by first | (with_reducible assumption) | assumption)) (by have h_ : (x8_2 : Int) < ((x7_2.length : Int) : Int) := of_decide_eq_true (by first | (with_reducible assumption) | assumption); first | exact h_ | (have e_ := (Kd.R_reads' HO_7.out).1; omega) | simpa using h_) (seg := [.int .i64 a2]) (j := 6) hcl20 hcc20 (show 7 ≤ 7 from by decide) (x' := (⟨(rd_T52 x7_2 x8_2).f0, (rd_T52 x7_2 x8_2).f1, (rd_T52 x7_2 x8_2).f2, (rd_T52 x7_2 x8_2).f3, (rd_T52 x7_2 x8_2).f4, (rd_T52 x7_2 x8_2).f5, a2⟩ : S52)) (k52_mkM _ _ _ (⟨(rd_T52 x7_2 x8_2).f0, (rd_T52 x7_2 x8_2).f1, (rd_T52 x7_2 x8_2).f2, (rd_T52 x7_2 x8_2).f3, (rd_T52 x7_2 x8_2).f4, (rd_T52 x7_2 x8_2).f5, a2⟩ : S52) ) (fun _ hk => hk))); (try (have hx20_6 := hcc20 6 _ rfl)); (try (try simp only [show (k52).sz = 7 from rfl, Nat.mul_one, Nat.add_zero] at hx20_6)); (try (have hf20_6 := hfr20 6)); (try (try simp only [show (k52).sz = 7 from rfl, Nat.mul_one, Nat.add_zero] at hf20_6)); (try (clear hcl20 hcc20 hfr20 hM20)))); refine store_event (t := 3) (p := 30) (v := ?vo_w21) (w1 := (wr.setCell ⟨go18, (x8_2 : Int).toNat * 7 + 6, none⟩ (.int .i64 a2))) ?hg ?ho ?hn ?hr ?_; (case ho => rfl); (case hg => rfl); (case hn => rfl); (case hr => first | (go_simp; done) | (go_simp; rfl)); intro w21 hw; have hg : wr.grownBy w21 (some go18) := (by rw [hw]; exact HP20.2); have hp_ : Kd.R k52 52 w21 w.heap.size (fun _ => True) (.slice (some ⟨go18, 0, none⟩) x7_2.length co19) y388 := (by rw [hw, Ny388.out]; exact HP20.1); clear HP20; have n0_ := Aside0.mk (hp_); have n1_ := Aside0.mk ((by rw [hw]; exact below_set (HB.out) GB18.out : Below w.heap.size w w21)); clear HO_7; clear HB; have HO_7 := n0_; have HB := n1_; clear n0_ n1_; clear hg hw hp_)); try go_wp2_with (first | ((with_reducible refine gate_store (t := 3) (p := 30) rfl ?_); (try (rw [drewN_self wr]; generalize hq_ : World.drewN wr _ = wr; have n0_ := Aside0.mk (Kd.R_at hq_ HO_7.out); have n1_ := Aside0.mk (below_at hq_ HB.out); clear hq_ HO_7 HB; have HO_7 := n0_; have HB := n1_; clear n0_ n1_; (try (have HX20 := Aside0.mk (show Kd.R k52 52 wr w.heap.size (fun _ => True) (.slice (some ⟨go18, 0, none⟩) x7_2.length co19) x7_2 from (by (with_reducible repeat (first | apply Kd.R_alloc | apply Kd.R_drewN | apply Kd.R_drew)); exact HO_7.out)))); (try (obtain ⟨ce20, hcl20, hM20, hcc20, hfr20⟩ := Kd.R_elem HX20.out z52 (x8_2 : Int) (of_decide_eq_true (by first | (with_reducible assumption) | assumption)) (by have h_ : (x8_2 : Int) < ((x7_2.length : Int) : Int) := of_decide_eq_true (by first | (with_reducible assumption) | assumption); first | exact h_ | (have e_ := (Kd.R_reads' HO_7.out).1; omega) | simpa using h_))); (try (obtain rfl := k52_openM hM20)); (try (have HP20 := Kd.R_seg HX20.out (x8_2 : Int) (of_decide_eq_true (by first | (with_reducible assumption) | assumption)) (by have h_ : (x8_2 : Int) < ((x7_2.length : Int) : Int) := of_decide_eq_true (by first | (with_reducible assumption) | assumption); first | exact h_ | (have e_ := (Kd.R_reads' HO_7.out).1; omega) | simpa using h_) (seg := [.int .i64 a2]) (j := 6) hcl20 hcc20 (show 7 ≤ 7 from by decide) (x' := (⟨(rd_T52 x7_2 x8_2).f0, (rd_T52 x7_2 x8_2).f1, (rd_T52 x7_2 x8_2).f2, (rd_T52 x7_2 x8_2).f3, (rd_T52 x7_2 x8_2).f4, (rd_T52 x7_2 x8_2).f5, a2⟩ : S52)) (k52_mkM _ _ _ (⟨(rd_T52 x7_2 x8_2).f0, (rd_T52 x7_2 x8_2).f1, (rd_T52 x7_2 x8_2).f2, (rd_T52 x7_2 x8_2).f3, (rd_T52 x7_2 x8_2).f4, (rd_T52 x7_2 x8_2).f5, a2⟩ : S52) ) (fun _ hk => hk))); (try (have hx20_6 := hcc20 6 _ rfl)); (try (try simp only [show (k52).sz = 7 from rfl, Nat.mul_one, Nat.add_zero] at hx20_6)); (try (have hf20_6 := hfr20 6)); (try (try simp only [show (k52).sz = 7 from rfl, Nat.mul_one, Nat.add_zero] at hf20_6)); (try (clear hcl20 hcc20 hfr20 hM20)))); refine store_event (t := 3) (p := 30) (v := ?vo_w21) (w1 := (wr.setCell ⟨go18, (x8_2 : Int).toNat * 7 + 6, none⟩ (.int .i64 a2))) ?hg ?ho ?hn ?hr ?_; (case ho => rfl); (case hg => rfl); (case hn => rfl); (case hr => first | (go_simp; done) | (go_simp; rfl)); intro w21 hw; have hg : wr.grownBy w21 (some go18) := (by rw [hw]; exact HP20.2); have hp_ : Kd.R k52 52 w21 w.heap.size (fun _ => True) (.slice (some ⟨go18, 0, none⟩) x7_2.length co19) y388 := (by rw [hw, Ny388.out]; exact HP20.1); clear HP20; have n0_ := Aside0.mk (hp_); have n1_ := Aside0.mk ((by rw [hw]; exact below_set (HB.out) GB18.out : Below w.heap.size w w21)); clear HO_7; clear HB; have HO_7 := n0_; have HB := n1_; clear n0_ n1_; clear hg hw hp_)))
                go_roundg k2
                case measure => have := HJ3.out; have := HK2.out; omega
                case rel => exact ⟨(y388), (wrap64 (x8_2 + 1)), (by first | rfl | (simp; done) | (simp [*]; done)), H', ⟨by have := HJ3.out; have := HK2.out; omega⟩, ⟨by (with_reducible repeat (first | apply Kd.R_alloc | apply Kd.R_drewN | apply Kd.R_drew)); exact HO_7.out⟩, ⟨by repeat (first | (with_reducible first | exact HB.out | apply below_alloc | apply pw_below_drewN | apply below_drew1) | exact HB.out)⟩⟩
              · rw [if_neg c17] at H
                exact absurd H (by simp)
            · rw [if_neg c16] at H
              have c16b0 : decide (x8_2 < (x7_2.length : Int)) = false := decide_eq_false c16
              clear c16
              have HC22 := Aside0.mk H
              clear H
              obtain ⟨Ao23, co23, eo23⟩ := Kd.R_slice HO_7.out
              subst eo23
              go_upto_region 8 with (fail)
              repeat (go_quiet (fail); go_upto_region 8 with (fail))
              go_cut [45] (fun v45 wc => ∃ (kq : Nat) (x45_21 : Bool), v45 = .bool x45_21 ∧ Aside0 (steelyardlaw14_TreeSame.j2 kq l0 a1 x7_2 x45_21 = some r) ∧ Aside0 (kq ≤ k2) ∧ Aside0 (Kd.R k52 52 wc w.heap.size (fun _ => True) (.slice Ao23 x7_2.length co23) x7_2) ∧ Aside0 (Below w.heap.size w wc))
              case first =>
                have H := HC22.out
                clear HC22
                replace H := Option.bind_eq_some_iff.mp H
                obtain ⟨t389, A240, H⟩ := H
                replace H : (if t389 = true then ((tree_Same.f x7_2 l0).bind fun t390 => (if t390 = true then ((tree_Good.f k2 x7_2).bind fun t391 => (steelyardlaw14_TreeSame.j2 k2 l0 a1 x7_2 (!t391))) else (steelyardlaw14_TreeSame.j2 k2 l0 a1 x7_2 true))) else (steelyardlaw14_TreeSame.j2 k2 l0 a1 x7_2 true)) = some r := H
                have A24 := Aside0.mk A240
                clear A240
                by_cases c25 : t389 = true
                · subst c25
                  have H1 : ((tree_Same.f x7_2 l0).bind fun t390 => (if t390 = true then ((tree_Good.f k2 x7_2).bind fun t391 => (steelyardlaw14_TreeSame.j2 k2 l0 a1 x7_2 (!t391))) else (steelyardlaw14_TreeSame.j2 k2 l0 a1 x7_2 true))) = some r := by rw [if_pos rfl] at H; exact H
                  clear H
                  have H := H1
                  clear H1
                  replace H := Option.bind_eq_some_iff.mp H
                  obtain ⟨t390, A260, H⟩ := H
                  replace H : (if t390 = true then ((tree_Good.f k2 x7_2).bind fun t391 => (steelyardlaw14_TreeSame.j2 k2 l0 a1 x7_2 (!t391))) else (steelyardlaw14_TreeSame.j2 k2 l0 a1 x7_2 true)) = some r := H
                  have A26 := Aside0.mk A260
                  clear A260
                  by_cases c27 : t390 = true
                  · subst c27
                    have H1 : ((tree_Good.f k2 x7_2).bind fun t391 => (steelyardlaw14_TreeSame.j2 k2 l0 a1 x7_2 (!t391))) = some r := by rw [if_pos rfl] at H; exact H
                    clear H
                    have H := H1
                    clear H1
                    replace H := Option.bind_eq_some_iff.mp H
                    obtain ⟨t391, A280, H⟩ := H
                    replace H : (steelyardlaw14_TreeSame.j2 k2 l0 a1 x7_2 (!t391)) = some r := H
                    have A28 := Aside0.mk A280
                    clear A280
                    have H' := Aside0.mk H
                    clear H
                    go_wp2_with (first | (go_at_call 38; (with_reducible refine (tree_Same.calls _ _ l0 _ _ x7_2 true _ ?side1 ?side2 ?side3 ?side4 A24.out).mono ?_); (case side1 => repeat (first | exact (Kd.C_below HR0.out HB.out) | (with_reducible refine Kd.C_alloc ?_ _) | (with_reducible refine Kd.C_drewN ?_ _) | (with_reducible refine Kd.C_drew ?_))); (case side2 => exact HC0.out); (case side3 => repeat (first | exact (Kd.R_reads' HO_7.out).2.2 | (with_reducible refine Kd.C_alloc ?_ _) | (with_reducible refine Kd.C_drewN ?_ _) | (with_reducible refine Kd.C_drew ?_))); (case side4 => exact (Kd.R_reads' HO_7.out).2.1); rintro e w29 ⟨rfl, hb⟩; have n0_ := Aside0.mk (Kd.R_below (by (with_reducible repeat (first | apply Kd.R_alloc | apply Kd.R_drewN | apply Kd.R_drew)); exact HO_7.out) hb); have n1_ := Aside0.mk (below_step (by repeat (first | (with_reducible first | exact HB.out | apply below_alloc | apply pw_below_drewN | apply below_drew1) | exact HB.out)) hb); clear HO_7; clear HB; have HO_7 := n0_; have HB := n1_; clear n0_ n1_; (try clear hb); (try clear hb2); (try clear hk); (try clear hi)) | (go_at_call 38; (with_reducible refine (tree_Same.calls _ _ x7_2 _ _ l0 true _ ?side1 ?side2 ?side3 ?side4 A26.out).mono ?_); (case side1 => repeat (first | exact (Kd.R_reads' HO_7.out).2.2 | (with_reducible refine Kd.C_alloc ?_ _) | (with_reducible refine Kd.C_drewN ?_ _) | (with_reducible refine Kd.C_drew ?_))); (case side2 => exact (Kd.R_reads' HO_7.out).2.1); (case side3 => repeat (first | exact (Kd.C_below HR0.out HB.out) | (with_reducible refine Kd.C_alloc ?_ _) | (with_reducible refine Kd.C_drewN ?_ _) | (with_reducible refine Kd.C_drew ?_))); (case side4 => exact HC0.out); rintro e w30 ⟨rfl, hb⟩; have n0_ := Aside0.mk (Kd.R_below (by (with_reducible repeat (first | apply Kd.R_alloc | apply Kd.R_drewN | apply Kd.R_drew)); exact HO_7.out) hb); have n1_ := Aside0.mk (below_step (by repeat (first | (with_reducible first | exact HB.out | apply below_alloc | apply pw_below_drewN | apply below_drew1) | exact HB.out)) hb); clear HO_7; clear HB; have HO_7 := n0_; have HB := n1_; clear n0_ n1_; (try clear hb); (try clear hb2); (try clear hk); (try clear hi)) | (go_at_call 36; (with_reducible refine (tree_Good.calls k2 _ _ x7_2 t391 _ ?side1 ?side2 A28.out ?sideG_).mono ?_); (case sideG_ => (first | (with_reducible exact HG_.out) | exact HG_.out.below (by repeat (first | (with_reducible first | exact HB.out | apply below_alloc | apply pw_below_drewN | apply below_drew1) | exact HB.out)))); (case side1 => repeat (first | exact (Kd.R_reads' HO_7.out).2.2 | (with_reducible refine Kd.C_alloc ?_ _) | (with_reducible refine Kd.C_drewN ?_ _) | (with_reducible refine Kd.C_drew ?_))); (case side2 => exact (Kd.R_reads' HO_7.out).2.1); rintro e w31 ⟨rfl, hb⟩; have n0_ := Aside0.mk (Kd.R_below (by (with_reducible repeat (first | apply Kd.R_alloc | apply Kd.R_drewN | apply Kd.R_drew)); exact HO_7.out) hb); have n1_ := Aside0.mk (below_step (by repeat (first | (with_reducible first | exact HB.out | apply below_alloc | apply pw_below_drewN | apply below_drew1) | exact HB.out)) hb); clear HO_7; clear HB; have HO_7 := n0_; have HB := n1_; clear n0_ n1_; (try clear hb); (try clear hb2); (try clear hk); (try clear hi)))
                    repeat (go_quiet (first | (go_at_call 38; (with_reducible refine (tree_Same.calls _ _ l0 _ _ x7_2 true _ ?side1 ?side2 ?side3 ?side4 A24.out).mono ?_); (case side1 => repeat (first | exact (Kd.C_below HR0.out HB.out) | (with_reducible refine Kd.C_alloc ?_ _) | (with_reducible refine Kd.C_drewN ?_ _) | (with_reducible refine Kd.C_drew ?_))); (case side2 => exact HC0.out); (case side3 => repeat (first | exact (Kd.R_reads' HO_7.out).2.2 | (with_reducible refine Kd.C_alloc ?_ _) | (with_reducible refine Kd.C_drewN ?_ _) | (with_reducible refine Kd.C_drew ?_))); (case side4 => exact (Kd.R_reads' HO_7.out).2.1); rintro e w29 ⟨rfl, hb⟩; have n0_ := Aside0.mk (Kd.R_below (by (with_reducible repeat (first | apply Kd.R_alloc | apply Kd.R_drewN | apply Kd.R_drew)); exact HO_7.out) hb); have n1_ := Aside0.mk (below_step (by repeat (first | (with_reducible first | exact HB.out | apply below_alloc | apply pw_below_drewN | apply below_drew1) | exact HB.out)) hb); clear HO_7; clear HB; have HO_7 := n0_; have HB := n1_; clear n0_ n1_; (try clear hb); (try clear hb2); (try clear hk); (try clear hi)) | (go_at_call 38; (with_reducible refine (tree_Same.calls _ _ x7_2 _ _ l0 true _ ?side1 ?side2 ?side3 ?side4 A26.out).mono ?_); (case side1 => repeat (first | exact (Kd.R_reads' HO_7.out).2.2 | (with_reducible refine Kd.C_alloc ?_ _) | (with_reducible refine Kd.C_drewN ?_ _) | (with_reducible refine Kd.C_drew ?_))); (case side2 => exact (Kd.R_reads' HO_7.out).2.1); (case side3 => repeat (first | exact (Kd.C_below HR0.out HB.out) | (with_reducible refine Kd.C_alloc ?_ _) | (with_reducible refine Kd.C_drewN ?_ _) | (with_reducible refine Kd.C_drew ?_))); (case side4 => exact HC0.out); rintro e w30 ⟨rfl, hb⟩; have n0_ := Aside0.mk (Kd.R_below (by (with_reducible repeat (first | apply Kd.R_alloc | apply Kd.R_drewN | apply Kd.R_drew)); exact HO_7.out) hb); have n1_ := Aside0.mk (below_step (by repeat (first | (with_reducible first | exact HB.out | apply below_alloc | apply pw_below_drewN | apply below_drew1) | exact HB.out)) hb); clear HO_7; clear HB; have HO_7 := n0_; have HB := n1_; clear n0_ n1_; (try clear hb); (try clear hb2); (try clear hk); (try clear hi)) | (go_at_call 36; (with_reducible refine (tree_Good.calls k2 _ _ x7_2 t391 _ ?side1 ?side2 A28.out ?sideG_).mono ?_); (case sideG_ => (first | (with_reducible exact HG_.out) | exact HG_.out.below (by repeat (first | (with_reducible first | exact HB.out | apply below_alloc | apply pw_below_drewN | apply below_drew1) | exact HB.out)))); (case side1 => repeat (first | exact (Kd.R_reads' HO_7.out).2.2 | (with_reducible refine Kd.C_alloc ?_ _) | (with_reducible refine Kd.C_drewN ?_ _) | (with_reducible refine Kd.C_drew ?_))); (case side2 => exact (Kd.R_reads' HO_7.out).2.1); rintro e w31 ⟨rfl, hb⟩; have n0_ := Aside0.mk (Kd.R_below (by (with_reducible repeat (first | apply Kd.R_alloc | apply Kd.R_drewN | apply Kd.R_drew)); exact HO_7.out) hb); have n1_ := Aside0.mk (below_step (by repeat (first | (with_reducible first | exact HB.out | apply below_alloc | apply pw_below_drewN | apply below_drew1) | exact HB.out)) hb); clear HO_7; clear HB; have HO_7 := n0_; have HB := n1_; clear n0_ n1_; (try clear hb); (try clear hb2); (try clear hk); (try clear hi))); try go_wp2_with (first | (go_at_call 38; (with_reducible refine (tree_Same.calls _ _ l0 _ _ x7_2 true _ ?side1 ?side2 ?side3 ?side4 A24.out).mono ?_); (case side1 => repeat (first | exact (Kd.C_below HR0.out HB.out) | (with_reducible refine Kd.C_alloc ?_ _) | (with_reducible refine Kd.C_drewN ?_ _) | (with_reducible refine Kd.C_drew ?_))); (case side2 => exact HC0.out); (case side3 => repeat (first | exact (Kd.R_reads' HO_7.out).2.2 | (with_reducible refine Kd.C_alloc ?_ _) | (with_reducible refine Kd.C_drewN ?_ _) | (with_reducible refine Kd.C_drew ?_))); (case side4 => exact (Kd.R_reads' HO_7.out).2.1); rintro e w29 ⟨rfl, hb⟩; have n0_ := Aside0.mk (Kd.R_below (by (with_reducible repeat (first | apply Kd.R_alloc | apply Kd.R_drewN | apply Kd.R_drew)); exact HO_7.out) hb); have n1_ := Aside0.mk (below_step (by repeat (first | (with_reducible first | exact HB.out | apply below_alloc | apply pw_below_drewN | apply below_drew1) | exact HB.out)) hb); clear HO_7; clear HB; have HO_7 := n0_; have HB := n1_; clear n0_ n1_; (try clear hb); (try clear hb2); (try clear hk); (try clear hi)) | (go_at_call 38; (with_reducible refine (tree_Same.calls _ _ x7_2 _ _ l0 true _ ?side1 ?side2 ?side3 ?side4 A26.out).mono ?_); (case side1 => repeat (first | exact (Kd.R_reads' HO_7.out).2.2 | (with_reducible refine Kd.C_alloc ?_ _) | (with_reducible refine Kd.C_drewN ?_ _) | (with_reducible refine Kd.C_drew ?_))); (case side2 => exact (Kd.R_reads' HO_7.out).2.1); (case side3 => repeat (first | exact (Kd.C_below HR0.out HB.out) | (with_reducible refine Kd.C_alloc ?_ _) | (with_reducible refine Kd.C_drewN ?_ _) | (with_reducible refine Kd.C_drew ?_))); (case side4 => exact HC0.out); rintro e w30 ⟨rfl, hb⟩; have n0_ := Aside0.mk (Kd.R_below (by (with_reducible repeat (first | apply Kd.R_alloc | apply Kd.R_drewN | apply Kd.R_drew)); exact HO_7.out) hb); have n1_ := Aside0.mk (below_step (by repeat (first | (with_reducible first | exact HB.out | apply below_alloc | apply pw_below_drewN | apply below_drew1) | exact HB.out)) hb); clear HO_7; clear HB; have HO_7 := n0_; have HB := n1_; clear n0_ n1_; (try clear hb); (try clear hb2); (try clear hk); (try clear hi)) | (go_at_call 36; (with_reducible refine (tree_Good.calls k2 _ _ x7_2 t391 _ ?side1 ?side2 A28.out ?sideG_).mono ?_); (case sideG_ => (first | (with_reducible exact HG_.out) | exact HG_.out.below (by repeat (first | (with_reducible first | exact HB.out | apply below_alloc | apply pw_below_drewN | apply below_drew1) | exact HB.out)))); (case side1 => repeat (first | exact (Kd.R_reads' HO_7.out).2.2 | (with_reducible refine Kd.C_alloc ?_ _) | (with_reducible refine Kd.C_drewN ?_ _) | (with_reducible refine Kd.C_drew ?_))); (case side2 => exact (Kd.R_reads' HO_7.out).2.1); rintro e w31 ⟨rfl, hb⟩; have n0_ := Aside0.mk (Kd.R_below (by (with_reducible repeat (first | apply Kd.R_alloc | apply Kd.R_drewN | apply Kd.R_drew)); exact HO_7.out) hb); have n1_ := Aside0.mk (below_step (by repeat (first | (with_reducible first | exact HB.out | apply below_alloc | apply pw_below_drewN | apply below_drew1) | exact HB.out)) hb); clear HO_7; clear HB; have HO_7 := n0_; have HB := n1_; clear n0_ n1_; (try clear hb); (try clear hb2); (try clear hk); (try clear hi))))
                    go_meet
                    case rel => exact ⟨_, (!t391), (by first | rfl | (simp; done) | (simp [*]; done)), H', ⟨by have := HJ3.out; have := HK2.out; first | omega | exact Nat.le_refl _⟩, ⟨by (with_reducible repeat (first | apply Kd.R_alloc | apply Kd.R_drewN | apply Kd.R_drew)); exact HO_7.out⟩, ⟨by repeat (first | (with_reducible first | exact HB.out | apply below_alloc | apply pw_below_drewN | apply below_drew1) | exact HB.out)⟩⟩
                  · replace c27 := Bool.eq_false_iff.mpr c27
                    subst c27
                    have H1 : (steelyardlaw14_TreeSame.j2 k2 l0 a1 x7_2 true) = some r := by rw [if_neg (show ¬ (false = true) by decide)] at H; exact H
                    clear H
                    have H := H1
                    clear H1
                    have H' := Aside0.mk H
                    clear H
                    go_wp2_with (first | (go_at_call 38; (with_reducible refine (tree_Same.calls _ _ l0 _ _ x7_2 true _ ?side1 ?side2 ?side3 ?side4 A24.out).mono ?_); (case side1 => repeat (first | exact (Kd.C_below HR0.out HB.out) | (with_reducible refine Kd.C_alloc ?_ _) | (with_reducible refine Kd.C_drewN ?_ _) | (with_reducible refine Kd.C_drew ?_))); (case side2 => exact HC0.out); (case side3 => repeat (first | exact (Kd.R_reads' HO_7.out).2.2 | (with_reducible refine Kd.C_alloc ?_ _) | (with_reducible refine Kd.C_drewN ?_ _) | (with_reducible refine Kd.C_drew ?_))); (case side4 => exact (Kd.R_reads' HO_7.out).2.1); rintro e w32 ⟨rfl, hb⟩; have n0_ := Aside0.mk (Kd.R_below (by (with_reducible repeat (first | apply Kd.R_alloc | apply Kd.R_drewN | apply Kd.R_drew)); exact HO_7.out) hb); have n1_ := Aside0.mk (below_step (by repeat (first | (with_reducible first | exact HB.out | apply below_alloc | apply pw_below_drewN | apply below_drew1) | exact HB.out)) hb); clear HO_7; clear HB; have HO_7 := n0_; have HB := n1_; clear n0_ n1_; (try clear hb); (try clear hb2); (try clear hk); (try clear hi)) | (go_at_call 38; (with_reducible refine (tree_Same.calls _ _ x7_2 _ _ l0 false _ ?side1 ?side2 ?side3 ?side4 A26.out).mono ?_); (case side1 => repeat (first | exact (Kd.R_reads' HO_7.out).2.2 | (with_reducible refine Kd.C_alloc ?_ _) | (with_reducible refine Kd.C_drewN ?_ _) | (with_reducible refine Kd.C_drew ?_))); (case side2 => exact (Kd.R_reads' HO_7.out).2.1); (case side3 => repeat (first | exact (Kd.C_below HR0.out HB.out) | (with_reducible refine Kd.C_alloc ?_ _) | (with_reducible refine Kd.C_drewN ?_ _) | (with_reducible refine Kd.C_drew ?_))); (case side4 => exact HC0.out); rintro e w33 ⟨rfl, hb⟩; have n0_ := Aside0.mk (Kd.R_below (by (with_reducible repeat (first | apply Kd.R_alloc | apply Kd.R_drewN | apply Kd.R_drew)); exact HO_7.out) hb); have n1_ := Aside0.mk (below_step (by repeat (first | (with_reducible first | exact HB.out | apply below_alloc | apply pw_below_drewN | apply below_drew1) | exact HB.out)) hb); clear HO_7; clear HB; have HO_7 := n0_; have HB := n1_; clear n0_ n1_; (try clear hb); (try clear hb2); (try clear hk); (try clear hi)))
                    repeat (go_quiet (first | (go_at_call 38; (with_reducible refine (tree_Same.calls _ _ l0 _ _ x7_2 true _ ?side1 ?side2 ?side3 ?side4 A24.out).mono ?_); (case side1 => repeat (first | exact (Kd.C_below HR0.out HB.out) | (with_reducible refine Kd.C_alloc ?_ _) | (with_reducible refine Kd.C_drewN ?_ _) | (with_reducible refine Kd.C_drew ?_))); (case side2 => exact HC0.out); (case side3 => repeat (first | exact (Kd.R_reads' HO_7.out).2.2 | (with_reducible refine Kd.C_alloc ?_ _) | (with_reducible refine Kd.C_drewN ?_ _) | (with_reducible refine Kd.C_drew ?_))); (case side4 => exact (Kd.R_reads' HO_7.out).2.1); rintro e w32 ⟨rfl, hb⟩; have n0_ := Aside0.mk (Kd.R_below (by (with_reducible repeat (first | apply Kd.R_alloc | apply Kd.R_drewN | apply Kd.R_drew)); exact HO_7.out) hb); have n1_ := Aside0.mk (below_step (by repeat (first | (with_reducible first | exact HB.out | apply below_alloc | apply pw_below_drewN | apply below_drew1) | exact HB.out)) hb); clear HO_7; clear HB; have HO_7 := n0_; have HB := n1_; clear n0_ n1_; (try clear hb); (try clear hb2); (try clear hk); (try clear hi)) | (go_at_call 38; (with_reducible refine (tree_Same.calls _ _ x7_2 _ _ l0 false _ ?side1 ?side2 ?side3 ?side4 A26.out).mono ?_); (case side1 => repeat (first | exact (Kd.R_reads' HO_7.out).2.2 | (with_reducible refine Kd.C_alloc ?_ _) | (with_reducible refine Kd.C_drewN ?_ _) | (with_reducible refine Kd.C_drew ?_))); (case side2 => exact (Kd.R_reads' HO_7.out).2.1); (case side3 => repeat (first | exact (Kd.C_below HR0.out HB.out) | (with_reducible refine Kd.C_alloc ?_ _) | (with_reducible refine Kd.C_drewN ?_ _) | (with_reducible refine Kd.C_drew ?_))); (case side4 => exact HC0.out); rintro e w33 ⟨rfl, hb⟩; have n0_ := Aside0.mk (Kd.R_below (by (with_reducible repeat (first | apply Kd.R_alloc | apply Kd.R_drewN | apply Kd.R_drew)); exact HO_7.out) hb); have n1_ := Aside0.mk (below_step (by repeat (first | (with_reducible first | exact HB.out | apply below_alloc | apply pw_below_drewN | apply below_drew1) | exact HB.out)) hb); clear HO_7; clear HB; have HO_7 := n0_; have HB := n1_; clear n0_ n1_; (try clear hb); (try clear hb2); (try clear hk); (try clear hi))); try go_wp2_with (first | (go_at_call 38; (with_reducible refine (tree_Same.calls _ _ l0 _ _ x7_2 true _ ?side1 ?side2 ?side3 ?side4 A24.out).mono ?_); (case side1 => repeat (first | exact (Kd.C_below HR0.out HB.out) | (with_reducible refine Kd.C_alloc ?_ _) | (with_reducible refine Kd.C_drewN ?_ _) | (with_reducible refine Kd.C_drew ?_))); (case side2 => exact HC0.out); (case side3 => repeat (first | exact (Kd.R_reads' HO_7.out).2.2 | (with_reducible refine Kd.C_alloc ?_ _) | (with_reducible refine Kd.C_drewN ?_ _) | (with_reducible refine Kd.C_drew ?_))); (case side4 => exact (Kd.R_reads' HO_7.out).2.1); rintro e w32 ⟨rfl, hb⟩; have n0_ := Aside0.mk (Kd.R_below (by (with_reducible repeat (first | apply Kd.R_alloc | apply Kd.R_drewN | apply Kd.R_drew)); exact HO_7.out) hb); have n1_ := Aside0.mk (below_step (by repeat (first | (with_reducible first | exact HB.out | apply below_alloc | apply pw_below_drewN | apply below_drew1) | exact HB.out)) hb); clear HO_7; clear HB; have HO_7 := n0_; have HB := n1_; clear n0_ n1_; (try clear hb); (try clear hb2); (try clear hk); (try clear hi)) | (go_at_call 38; (with_reducible refine (tree_Same.calls _ _ x7_2 _ _ l0 false _ ?side1 ?side2 ?side3 ?side4 A26.out).mono ?_); (case side1 => repeat (first | exact (Kd.R_reads' HO_7.out).2.2 | (with_reducible refine Kd.C_alloc ?_ _) | (with_reducible refine Kd.C_drewN ?_ _) | (with_reducible refine Kd.C_drew ?_))); (case side2 => exact (Kd.R_reads' HO_7.out).2.1); (case side3 => repeat (first | exact (Kd.C_below HR0.out HB.out) | (with_reducible refine Kd.C_alloc ?_ _) | (with_reducible refine Kd.C_drewN ?_ _) | (with_reducible refine Kd.C_drew ?_))); (case side4 => exact HC0.out); rintro e w33 ⟨rfl, hb⟩; have n0_ := Aside0.mk (Kd.R_below (by (with_reducible repeat (first | apply Kd.R_alloc | apply Kd.R_drewN | apply Kd.R_drew)); exact HO_7.out) hb); have n1_ := Aside0.mk (below_step (by repeat (first | (with_reducible first | exact HB.out | apply below_alloc | apply pw_below_drewN | apply below_drew1) | exact HB.out)) hb); clear HO_7; clear HB; have HO_7 := n0_; have HB := n1_; clear n0_ n1_; (try clear hb); (try clear hb2); (try clear hk); (try clear hi))))
                    go_meet
                    case rel => exact ⟨_, (true), (by first | rfl | (simp; done) | (simp [*]; done)), H', ⟨by have := HJ3.out; have := HK2.out; first | omega | exact Nat.le_refl _⟩, ⟨by (with_reducible repeat (first | apply Kd.R_alloc | apply Kd.R_drewN | apply Kd.R_drew)); exact HO_7.out⟩, ⟨by repeat (first | (with_reducible first | exact HB.out | apply below_alloc | apply pw_below_drewN | apply below_drew1) | exact HB.out)⟩⟩
                · replace c25 := Bool.eq_false_iff.mpr c25
                  subst c25
                  have H1 : (steelyardlaw14_TreeSame.j2 k2 l0 a1 x7_2 true) = some r := by rw [if_neg (show ¬ (false = true) by decide)] at H; exact H
                  clear H
                  have H := H1
                  clear H1
                  have H' := Aside0.mk H
                  clear H
                  go_wp2_with (first | (go_at_call 38; (with_reducible refine (tree_Same.calls _ _ l0 _ _ x7_2 false _ ?side1 ?side2 ?side3 ?side4 A24.out).mono ?_); (case side1 => repeat (first | exact (Kd.C_below HR0.out HB.out) | (with_reducible refine Kd.C_alloc ?_ _) | (with_reducible refine Kd.C_drewN ?_ _) | (with_reducible refine Kd.C_drew ?_))); (case side2 => exact HC0.out); (case side3 => repeat (first | exact (Kd.R_reads' HO_7.out).2.2 | (with_reducible refine Kd.C_alloc ?_ _) | (with_reducible refine Kd.C_drewN ?_ _) | (with_reducible refine Kd.C_drew ?_))); (case side4 => exact (Kd.R_reads' HO_7.out).2.1); rintro e w34 ⟨rfl, hb⟩; have n0_ := Aside0.mk (Kd.R_below (by (with_reducible repeat (first | apply Kd.R_alloc | apply Kd.R_drewN | apply Kd.R_drew)); exact HO_7.out) hb); have n1_ := Aside0.mk (below_step (by repeat (first | (with_reducible first | exact HB.out | apply below_alloc | apply pw_below_drewN | apply below_drew1) | exact HB.out)) hb); clear HO_7; clear HB; have HO_7 := n0_; have HB := n1_; clear n0_ n1_; (try clear hb); (try clear hb2); (try clear hk); (try clear hi)))
                  repeat (go_quiet (first | (go_at_call 38; (with_reducible refine (tree_Same.calls _ _ l0 _ _ x7_2 false _ ?side1 ?side2 ?side3 ?side4 A24.out).mono ?_); (case side1 => repeat (first | exact (Kd.C_below HR0.out HB.out) | (with_reducible refine Kd.C_alloc ?_ _) | (with_reducible refine Kd.C_drewN ?_ _) | (with_reducible refine Kd.C_drew ?_))); (case side2 => exact HC0.out); (case side3 => repeat (first | exact (Kd.R_reads' HO_7.out).2.2 | (with_reducible refine Kd.C_alloc ?_ _) | (with_reducible refine Kd.C_drewN ?_ _) | (with_reducible refine Kd.C_drew ?_))); (case side4 => exact (Kd.R_reads' HO_7.out).2.1); rintro e w34 ⟨rfl, hb⟩; have n0_ := Aside0.mk (Kd.R_below (by (with_reducible repeat (first | apply Kd.R_alloc | apply Kd.R_drewN | apply Kd.R_drew)); exact HO_7.out) hb); have n1_ := Aside0.mk (below_step (by repeat (first | (with_reducible first | exact HB.out | apply below_alloc | apply pw_below_drewN | apply below_drew1) | exact HB.out)) hb); clear HO_7; clear HB; have HO_7 := n0_; have HB := n1_; clear n0_ n1_; (try clear hb); (try clear hb2); (try clear hk); (try clear hi))); try go_wp2_with (first | (go_at_call 38; (with_reducible refine (tree_Same.calls _ _ l0 _ _ x7_2 false _ ?side1 ?side2 ?side3 ?side4 A24.out).mono ?_); (case side1 => repeat (first | exact (Kd.C_below HR0.out HB.out) | (with_reducible refine Kd.C_alloc ?_ _) | (with_reducible refine Kd.C_drewN ?_ _) | (with_reducible refine Kd.C_drew ?_))); (case side2 => exact HC0.out); (case side3 => repeat (first | exact (Kd.R_reads' HO_7.out).2.2 | (with_reducible refine Kd.C_alloc ?_ _) | (with_reducible refine Kd.C_drewN ?_ _) | (with_reducible refine Kd.C_drew ?_))); (case side4 => exact (Kd.R_reads' HO_7.out).2.1); rintro e w34 ⟨rfl, hb⟩; have n0_ := Aside0.mk (Kd.R_below (by (with_reducible repeat (first | apply Kd.R_alloc | apply Kd.R_drewN | apply Kd.R_drew)); exact HO_7.out) hb); have n1_ := Aside0.mk (below_step (by repeat (first | (with_reducible first | exact HB.out | apply below_alloc | apply pw_below_drewN | apply below_drew1) | exact HB.out)) hb); clear HO_7; clear HB; have HO_7 := n0_; have HB := n1_; clear n0_ n1_; (try clear hb); (try clear hb2); (try clear hk); (try clear hi))))
                  go_meet
                  case rel => exact ⟨_, (true), (by first | rfl | (simp; done) | (simp [*]; done)), H', ⟨by have := HJ3.out; have := HK2.out; first | omega | exact Nat.le_refl _⟩, ⟨by (with_reducible repeat (first | apply Kd.R_alloc | apply Kd.R_drewN | apply Kd.R_drew)); exact HO_7.out⟩, ⟨by repeat (first | (with_reducible first | exact HB.out | apply below_alloc | apply pw_below_drewN | apply below_drew1) | exact HB.out)⟩⟩
              case rest =>
                clear HC22
                try clear c1
                try clear p1
                try clear q1
                try clear hx1
                try clear c2
                try clear p2
                try clear hx2
                try clear c6
                try clear p6
                try clear c9
                try clear c11
                try clear c16
                try clear c16b0
                try clear c17
                try clear c17b0
                try clear c18
                try clear p18
                try clear q18
                try clear hx18
                try clear hf18
                try clear c20
                try clear hx20
                try clear hf20
                try clear c25
                try clear c27
                try clear hx18_0
                try clear hx18_1
                try clear hx18_2
                try clear hx18_3
                try clear hx18_4
                try clear hx18_5
                try clear hx18_6
                try clear hx20_6
                try clear p18
                try clear p2
                try clear q18
                obtain ⟨kq, x45_21, rfl, HA, HJ21, HO_7, HB⟩ := hcut
                cases kq with
                | zero => exact absurd HA.out (by simp [steelyardlaw14_TreeSame.j2])
                | succ kj21 =>
                  have H := HA.out
                  clear HA
                  simp only [steelyardlaw14_TreeSame.j2] at H
                  by_cases c35 : x45_21 = true
                  · subst c35
                    have H1 : (some false) = some r := by rw [if_pos rfl] at H; exact H
                    clear H
                    have H := H1
                    clear H1
                    obtain rfl := Option.some.inj H
                    go_wp2
                    repeat (go_quiet (fail); try go_wp2)
                    go_ret
                    exact ⟨by first | rfl | (simp [errW_none, errW_some] <;> rfl) | (simp [*, errW_none, errW_some] <;> rfl), by repeat (first | (with_reducible first | exact HB.out | apply below_alloc | apply pw_below_drewN | apply below_drew1) | exact HB.out)⟩
                  · replace c35 := Bool.eq_false_iff.mpr c35
                    subst c35
                    have H1 : (if (x7_2.length : Int) = 0 then (none) else (if 0 ≤ (Int.tmod (wrap64 (a1)) (x7_2.length : Int)) then (if (Int.tmod (wrap64 (a1)) (x7_2.length : Int)) < (x7_2.length : Int) then (if ((rd_T52 x7_2 (Int.tmod (wrap64 (a1)) (x7_2.length : Int))).f0) = 1 then (steelyardlaw14_TreeSame.j3 kj21 l0 x7_2 (Int.tmod (wrap64 (a1)) (x7_2.length : Int)) ((rd_T52 x7_2 (Int.tmod (wrap64 (a1)) (x7_2.length : Int))).f0) (((rd_T52 x7_2 (Int.tmod (wrap64 (a1)) (x7_2.length : Int))).f0) == 1)) else (steelyardlaw14_TreeSame.j3 kj21 l0 x7_2 (Int.tmod (wrap64 (a1)) (x7_2.length : Int)) ((rd_T52 x7_2 (Int.tmod (wrap64 (a1)) (x7_2.length : Int))).f0) (((rd_T52 x7_2 (Int.tmod (wrap64 (a1)) (x7_2.length : Int))).f0) == 2))) else (none)) else (none))) = some r := by rw [if_neg (show ¬ (false = true) by decide)] at H; exact H
                    clear H
                    have H := H1
                    clear H1
                    by_cases c36 : (x7_2.length : Int) = 0
                    · rw [if_pos c36] at H
                      exact absurd H (by simp)
                    · rw [if_neg c36] at H
                      have c36b0 : ((x7_2.length : Int) == 0) = false := beq_eq_false_iff_ne.mpr c36
                      have c36b1 : ((x7_2.length : Int) != 0) = true := bne_iff_ne.mpr c36
                      have c36b2 : ¬ (x7_2 = []) := fun h_ => c36 (by rw [h_]; rfl)
                      obtain ⟨ji37, hji37⟩ : ∃ j_ : Int, (Int.tmod (wrap64 (a1)) (x7_2.length : Int)) = j_ := ⟨_, rfl⟩
                      replace H : (if 0 ≤ (ji37) then (if (ji37) < (x7_2.length : Int) then (if ((rd_T52 x7_2 (ji37)).f0) = 1 then (steelyardlaw14_TreeSame.j3 kj21 l0 x7_2 ji37 ((rd_T52 x7_2 (ji37)).f0) (((rd_T52 x7_2 (ji37)).f0) == 1)) else (steelyardlaw14_TreeSame.j3 kj21 l0 x7_2 ji37 ((rd_T52 x7_2 (ji37)).f0) (((rd_T52 x7_2 (ji37)).f0) == 2))) else (none)) else (none)) = some r := by first | (rw [hji37] at H; exact H) | (simp only [hji37] at H ⊢; exact H)
                      by_cases c38 : 0 ≤ (ji37)
                      · rw [if_pos c38] at H
                        have c38b0 : decide (0 ≤ (ji37)) = true := decide_eq_true c38
                        clear c38
                        by_cases c39 : (ji37) < (x7_2.length : Int)
                        · rw [if_pos c39] at H
                          have c39b0 : decide ((ji37) < (x7_2.length : Int)) = true := decide_eq_true c39
                          clear c39
                          have HC40 := Aside0.mk H
                          clear H
                          have p392 : 0 ≤ ((ji37) : Int) := of_decide_eq_true (by first | (with_reducible assumption) | assumption)
                          have q392 : (ji37) < (x7_2.length : Int) := of_decide_eq_true (by first | (with_reducible assumption) | assumption)
                          obtain ⟨ad392, e392, hx392_0, hx392_1, hx392_2, hx392_3, hx392_4, hx392_5, hx392_6⟩ := at_T52 (Kd.R_reads' HO_7.out).2.2 (ji37) p392 q392
                          cases e392
                          replace p392 := eq_true p392
                          replace q392 := eq_true q392
                          go_upto_block 2 with (fail)
                          repeat (go_quiet (fail); go_upto_block 2 with (fail))
                          go_cut [] (fun wc => ∃ (kq : Nat) (x7_39 : List (S52)), Aside0 (steelyardlaw14_TreeSame.j4 kq l0 x7_39 ji37 = some r) ∧ Aside0 (kq ≤ kj21) ∧ Aside0 (Kd.R k52 52 wc w.heap.size (fun _ => True) (.slice (some ad392) x7_2.length co23) x7_39) ∧ Aside0 (Below w.heap.size w wc))
                          case first =>
                            have H := HC40.out
                            clear HC40
                            have HC41 := Aside0.mk H
                            clear H
                            go_upto_if 66 with (fail)
                            repeat (go_quiet (fail); go_upto_if 66 with (fail))
                            go_cut [66] (fun v66 wc => ∃ (kq : Nat) (x66_40 : Bool), v66 = .bool x66_40 ∧ Aside0 (steelyardlaw14_TreeSame.j3 kq l0 x7_2 ji37 ((rd_T52 x7_2 (ji37)).f0) x66_40 = some r) ∧ Aside0 (kq ≤ kj21) ∧ Aside0 (Kd.R k52 52 wc w.heap.size (fun _ => True) (.slice (some ad392) x7_2.length co23) x7_2) ∧ Aside0 (Below w.heap.size w wc))
                            case first =>
                              have H := HC41.out
                              clear HC41
                              by_cases c42 : ((rd_T52 x7_2 (ji37)).f0) = 1
                              · rw [if_pos c42] at H
                                have c42b0 : (((rd_T52 x7_2 (ji37)).f0) == 1) = true := beq_iff_eq.mpr c42
                                have c42b1 : (((rd_T52 x7_2 (ji37)).f0) != 1) = false := bne_eq_false_iff_eq.mpr c42
                                clear c42
                                (first | rw [c42b0] | (simp only [i64_w, i32_w]; rw [c42b0]) | skip)
                                have H' := Aside0.mk H
                                clear H
                                go_wp2
                                repeat (go_quiet (fail); try go_wp2)
                                go_meet
                                case rel => exact ⟨_, ((((rd_T52 x7_2 (ji37)).f0) == 1)), (by first | rfl | (simp; done) | (simp only [← hji37] <;> (first | rfl | (simp; done))) | (simp only [hji37]; first | rfl | (simp [*]; done) | (simp_all; done)) | (simp [*]; done)), (by first | exact H' | (rw [hji37]; exact H') | (simp only [hji37]; exact H')), ⟨by have := HJ3.out; have := HK2.out; have := HJ21.out; first | omega | exact Nat.le_refl _⟩, ⟨by (with_reducible repeat (first | apply Kd.R_alloc | apply Kd.R_drewN | apply Kd.R_drew)); exact HO_7.out⟩, ⟨by repeat (first | (with_reducible first | exact HB.out | apply below_alloc | apply pw_below_drewN | apply below_drew1) | exact HB.out)⟩⟩
                              · rw [if_neg c42] at H
                                have c42b0 : (((rd_T52 x7_2 (ji37)).f0) == 1) = false := beq_eq_false_iff_ne.mpr c42
                                have c42b1 : (((rd_T52 x7_2 (ji37)).f0) != 1) = true := bne_iff_ne.mpr c42
                                (first | rw [c42b0] | (simp only [i64_w, i32_w]; rw [c42b0]) | skip)
                                have H' := Aside0.mk H
                                clear H
                                go_wp2
                                repeat (go_quiet (fail); try go_wp2)
                                go_meet
                                case rel => exact ⟨_, ((((rd_T52 x7_2 (ji37)).f0) == 2)), (by first | rfl | (simp; done) | (simp only [← hji37] <;> (first | rfl | (simp; done))) | (simp only [hji37]; first | rfl | (simp [*]; done) | (simp_all; done)) | (simp [*]; done)), (by first | exact H' | (rw [hji37]; exact H') | (simp only [hji37]; exact H')), ⟨by have := HJ3.out; have := HK2.out; have := HJ21.out; first | omega | exact Nat.le_refl _⟩, ⟨by (with_reducible repeat (first | apply Kd.R_alloc | apply Kd.R_drewN | apply Kd.R_drew)); exact HO_7.out⟩, ⟨by repeat (first | (with_reducible first | exact HB.out | apply below_alloc | apply pw_below_drewN | apply below_drew1) | exact HB.out)⟩⟩
                            case rest =>
                              clear HC41
                              try clear c1
                              try clear p1
                              try clear q1
                              try clear hx1
                              try clear c2
                              try clear p2
                              try clear hx2
                              try clear c3
                              try clear p3
                              try clear q3
                              try clear hx3
                              try clear c4
                              try clear c6
                              try clear p6
                              try clear c9
                              try clear c11
                              try clear c16
                              try clear c16b0
                              try clear c17
                              try clear c17b0
                              try clear c18
                              try clear p18
                              try clear q18
                              try clear hx18
                              try clear hf18
                              try clear c20
                              try clear hx20
                              try clear hf20
                              try clear c25
                              try clear c27
                              try clear c35
                              try clear c36
                              try clear c36b0
                              try clear c36b1
                              try clear c36b2
                              try clear c38
                              try clear c38b0
                              try clear c39
                              try clear c39b0
                              try clear p39
                              try clear q39
                              try clear hx39
                              try clear c42
                              try clear c42b0
                              try clear c42b1
                              try clear hx18_0
                              try clear hx18_1
                              try clear hx18_2
                              try clear hx18_3
                              try clear hx18_4
                              try clear hx18_5
                              try clear hx18_6
                              try clear hx20_6
                              try clear hx392_0
                              try clear hx392_1
                              try clear hx392_2
                              try clear hx392_3
                              try clear hx392_4
                              try clear hx392_5
                              try clear hx392_6
                              try clear p1
                              try clear p18
                              try clear p2
                              try clear p392
                              try clear p6
                              try clear q1
                              try clear q18
                              try clear q392
                              obtain ⟨kq, x66_40, rfl, HA, HJ40, HO_7, HB⟩ := hcut
                              cases kq with
                              | zero => exact absurd HA.out (by simp [steelyardlaw14_TreeSame.j3])
                              | succ kj40 =>
                                have H := HA.out
                                clear HA
                                simp only [steelyardlaw14_TreeSame.j3] at H
                                by_cases c43 : x66_40 = true
                                · subst c43
                                  have H1 : (if 0 ≤ ji37 then (if ji37 < (x7_2.length : Int) then (if ((rd_T52 x7_2 ji37).f4).size + 1 ≤ 9223372036854775807 then (steelyardlaw14_TreeSame.j4 kj40 l0 (x7_2.set (ji37 : Int).toNat (⟨(rd_T52 x7_2 ji37).f0, (rd_T52 x7_2 ji37).f1, (rd_T52 x7_2 ji37).f2, (rd_T52 x7_2 ji37).f3, ((rd_T52 x7_2 ji37).f4) ++ (⟨#[49]⟩ : ByteArray), (rd_T52 x7_2 ji37).f5, (rd_T52 x7_2 ji37).f6⟩ : S52)) ji37) else (none)) else (none)) else (none)) = some r := by rw [if_pos rfl] at H; exact H
                                  clear H
                                  have H := H1
                                  clear H1
                                  by_cases c44 : 0 ≤ ji37
                                  · rw [if_pos c44] at H
                                    have c44b0 : decide (0 ≤ ji37) = true := decide_eq_true c44
                                    clear c44
                                    by_cases c45 : ji37 < (x7_2.length : Int)
                                    · rw [if_pos c45] at H
                                      have c45b0 : decide (ji37 < (x7_2.length : Int)) = true := decide_eq_true c45
                                      clear c45
                                      by_cases c46 : ((rd_T52 x7_2 ji37).f4).size + 1 ≤ 9223372036854775807
                                      · rw [if_pos c46] at H
                                        have c46b0 := eq_true c46
                                        have c46b1 : decide (((rd_T52 x7_2 ji37).f4).size + 1 ≤ 9223372036854775807) = true := decide_eq_true c46
                                        try have c46b2 : (9223372036854775807 < ((rd_T52 x7_2 ji37).f4).size + 1) = False := eq_false (Nat.not_lt.2 c46)
                                        obtain ⟨y394, hy394⟩ : ∃ y_ : List (S52), y_ = (x7_2.set (ji37 : Int).toNat (⟨(rd_T52 x7_2 ji37).f0, (rd_T52 x7_2 ji37).f1, (rd_T52 x7_2 ji37).f2, (rd_T52 x7_2 ji37).f3, ((rd_T52 x7_2 ji37).f4) ++ (⟨#[49]⟩ : ByteArray), (rd_T52 x7_2 ji37).f5, (rd_T52 x7_2 ji37).f6⟩ : S52)) := ⟨_, rfl⟩
                                        replace H : (steelyardlaw14_TreeSame.j4 kj40 l0 y394 ji37) = some r := by first | (rw [hy394]; with_reducible exact H) | (have H2_ := (Option.bind_some _ _).symm.trans H; rw [hy394]; with_reducible exact H2_) | (have H2_ := (Option.bind_some _ _).symm.trans H; with_reducible exact H2_) | with_reducible exact H | (rw [hy394]; exact H) | exact H
                                        have Ny394 := Aside0.mk hy394
                                        clear hy394
                                        have H' := Aside0.mk H
                                        clear H
                                        have p393 : 0 ≤ (ji37 : Int) := of_decide_eq_true (by first | (with_reducible assumption) | assumption)
                                        have q393 : ji37 < (x7_2.length : Int) := of_decide_eq_true (by first | (with_reducible assumption) | assumption)
                                        obtain ⟨ad393, e393, hx393_0, hx393_1, hx393_2, hx393_3, hx393_4, hx393_5, hx393_6⟩ := at_T52 (Kd.R_reads' HO_7.out).2.2 ji37 p393 q393
                                        obtain rfl : ad392 = ad393 := (by injection e393)
                                        replace p393 := eq_true p393
                                        replace q393 := eq_true q393
                                        have p47 : 0 ≤ (ji37 : Int) := of_decide_eq_true (by first | (with_reducible assumption) | assumption)
                                        have q47 : (ji37 : Int) < ((x7_2.length : Int) : Int) := of_decide_eq_true (by first | (with_reducible assumption) | assumption)
                                        obtain ⟨go47, co47, eo47, gb47, gl47, cl47, HG47⟩ := Kd.R_form HO_7.out (by omega)
                                        (first | cases eo47 | (injection eo47 with ea_ en_ ec_; (first | subst ea_ | (injection ea_ with ea_; subst ea_)); subst ec_; clear en_))
                                        have GB47 := Aside0.mk gb47
                                        have GG47 := Aside0.mk HG47
                                        clear gb47 gl47 HG47
                                        (first | simp only [add_plain] at hx392_0 | skip)
                                        (first | simp only [add_plain] at hx392_1 | skip)
                                        (first | simp only [add_plain] at hx392_2 | skip)
                                        (first | simp only [add_plain] at hx392_3 | skip)
                                        (first | simp only [add_plain] at hx392_4 | skip)
                                        (first | simp only [add_plain] at hx392_5 | skip)
                                        (first | simp only [add_plain] at hx392_6 | skip)
                                        (first | simp only [add_plain] at hx393_0 | skip)
                                        (first | simp only [add_plain] at hx393_1 | skip)
                                        (first | simp only [add_plain] at hx393_2 | skip)
                                        (first | simp only [add_plain] at hx393_3 | skip)
                                        (first | simp only [add_plain] at hx393_4 | skip)
                                        (first | simp only [add_plain] at hx393_5 | skip)
                                        (first | simp only [add_plain] at hx393_6 | skip)
                                        obtain ⟨ce47, hcl47, hM47, hcc47, hfr47⟩ := Kd.R_elem HO_7.out z52 (ji37 : Int) p47 q47
                                        obtain rfl := k52_openM hM47
                                        have hx47_0 : wc.cell? ⟨go47, (ji37 : Int).toNat * 7, none⟩ = some (.int .i64 ((rd_T52 x7_2 ji37).f0)) := hcc47 0 _ rfl
                                        have hx47_1 : wc.cell? ⟨go47, (ji37 : Int).toNat * 7 + 1, none⟩ = some (.int .i64 ((rd_T52 x7_2 ji37).f1)) := hcc47 1 _ rfl
                                        have hx47_2 : wc.cell? ⟨go47, (ji37 : Int).toNat * 7 + 2, none⟩ = some (.int .i64 ((rd_T52 x7_2 ji37).f2)) := hcc47 2 _ rfl
                                        have hx47_3 : wc.cell? ⟨go47, (ji37 : Int).toNat * 7 + 3, none⟩ = some (.int .i64 ((rd_T52 x7_2 ji37).f3)) := hcc47 3 _ rfl
                                        have hx47_4 : wc.cell? ⟨go47, (ji37 : Int).toNat * 7 + 4, none⟩ = some (.string ((rd_T52 x7_2 ji37).f4)) := hcc47 4 _ rfl
                                        have hx47_5 : wc.cell? ⟨go47, (ji37 : Int).toNat * 7 + 5, none⟩ = some (.string ((rd_T52 x7_2 ji37).f5)) := hcc47 5 _ rfl
                                        have hx47_6 : wc.cell? ⟨go47, (ji37 : Int).toNat * 7 + 6, none⟩ = some (.int .i64 ((rd_T52 x7_2 ji37).f6)) := hcc47 6 _ rfl
                                        have hf47_0 : wc.frozen? ⟨go47, (ji37 : Int).toNat * 7, none⟩ = false := hfr47 0
                                        have hf47_1 : wc.frozen? ⟨go47, (ji37 : Int).toNat * 7 + 1, none⟩ = false := hfr47 1
                                        have hf47_2 : wc.frozen? ⟨go47, (ji37 : Int).toNat * 7 + 2, none⟩ = false := hfr47 2
                                        have hf47_3 : wc.frozen? ⟨go47, (ji37 : Int).toNat * 7 + 3, none⟩ = false := hfr47 3
                                        have hf47_4 : wc.frozen? ⟨go47, (ji37 : Int).toNat * 7 + 4, none⟩ = false := hfr47 4
                                        have hf47_5 : wc.frozen? ⟨go47, (ji37 : Int).toNat * 7 + 5, none⟩ = false := hfr47 5
                                        have hf47_6 : wc.frozen? ⟨go47, (ji37 : Int).toNat * 7 + 6, none⟩ = false := hfr47 6
                                        clear hcl47 hcc47 hfr47 hM47
                                        replace p47 := eq_true p47
                                        replace q47 := eq_true q47
                                        have HX48 := Aside0.mk (show Kd.R k52 52 wc w.heap.size (fun _ => True) (.slice (some ⟨go47, 0, none⟩) x7_2.length co23) x7_2 from (by (with_reducible repeat (first | apply Kd.R_alloc | apply Kd.R_drewN | apply Kd.R_drew)); exact HO_7.out))
                                        obtain ⟨ce48, hcl48, hM48, hcc48, hfr48⟩ := Kd.R_elem HX48.out z52 (ji37 : Int) (of_decide_eq_true (by first | (with_reducible assumption) | assumption)) (by have h_ : (ji37 : Int) < ((x7_2.length : Int) : Int) := of_decide_eq_true (by first | (with_reducible assumption) | assumption); first | exact h_ | (have e_ := (Kd.R_reads' HO_7.out).1; omega) | simpa using h_)
                                        obtain rfl := k52_openM hM48
                                        have HP48 := Kd.R_seg HX48.out (ji37 : Int) (of_decide_eq_true (by first | (with_reducible assumption) | assumption)) (by have h_ : (ji37 : Int) < ((x7_2.length : Int) : Int) := of_decide_eq_true (by first | (with_reducible assumption) | assumption); first | exact h_ | (have e_ := (Kd.R_reads' HO_7.out).1; omega) | simpa using h_) (seg := [.string (((rd_T52 x7_2 ji37).f4) ++ (⟨#[49]⟩ : ByteArray))]) (j := 4) hcl48 hcc48 (show 5 ≤ 7 from by decide) (x' := (⟨(rd_T52 x7_2 ji37).f0, (rd_T52 x7_2 ji37).f1, (rd_T52 x7_2 ji37).f2, (rd_T52 x7_2 ji37).f3, ((rd_T52 x7_2 ji37).f4) ++ (⟨#[49]⟩ : ByteArray), (rd_T52 x7_2 ji37).f5, (rd_T52 x7_2 ji37).f6⟩ : S52)) (k52_mkM _ _ _ (⟨(rd_T52 x7_2 ji37).f0, (rd_T52 x7_2 ji37).f1, (rd_T52 x7_2 ji37).f2, (rd_T52 x7_2 ji37).f3, ((rd_T52 x7_2 ji37).f4) ++ (⟨#[49]⟩ : ByteArray), (rd_T52 x7_2 ji37).f5, (rd_T52 x7_2 ji37).f6⟩ : S52) ) (fun _ hk => hk)
                                        have hx48_4 := hcc48 4 _ rfl
                                        (try simp only [show (k52).sz = 7 from rfl, Nat.mul_one, Nat.add_zero] at hx48_4)
                                        have hf48_4 := hfr48 4
                                        (try simp only [show (k52).sz = 7 from rfl, Nat.mul_one, Nat.add_zero] at hf48_4)
                                        clear hcl48 hcc48 hfr48 hM48
                                        go_wp2_with (first | ((with_reducible refine gate_store (t := 9) (p := 76) rfl ?_); (try (rw [drewN_self wc]; generalize hq_ : World.drewN wc _ = wc; have n0_ := Aside0.mk (Kd.R_at hq_ HO_7.out); have n1_ := Aside0.mk (below_at hq_ HB.out); clear hq_ HO_7 HB; have HO_7 := n0_; have HB := n1_; clear n0_ n1_; (try (have HX48 := Aside0.mk (show Kd.R k52 52 wc w.heap.size (fun _ => True) (.slice (some ⟨go47, 0, none⟩) x7_2.length co23) x7_2 from (by (with_reducible repeat (first | apply Kd.R_alloc | apply Kd.R_drewN | apply Kd.R_drew)); exact HO_7.out)))); (try (obtain ⟨ce48, hcl48, hM48, hcc48, hfr48⟩ := Kd.R_elem HX48.out z52 (ji37 : Int) (of_decide_eq_true (by first | (with_reducible assumption) | assumption)) (by have h_ : (ji37 : Int) < ((x7_2.length : Int) : Int) := of_decide_eq_true (by first | (with_reducible assumption) | assumption); first | exact h_ | (have e_ := (Kd.R_reads' HO_7.out).1; omega) | simpa using h_))); (try (obtain rfl := k52_openM hM48)); (try (have HP48 := Kd.R_seg HX48.out (ji37 : Int) (of_decide_eq_true (by first | (with_reducible assumption) | assumption)) (by have h_ : (ji37 : Int) < ((x7_2.length : Int) : Int) := of_decide_eq_true (by first | (with_reducible assumption) | assumption); first | exact h_ | (have e_ := (Kd.R_reads' HO_7.out).1; omega) | simpa using h_) (seg := [.string (((rd_T52 x7_2 ji37).f4) ++ (⟨#[49]⟩ : ByteArray))]) (j := 4) hcl48 hcc48 (show 5 ≤ 7 from by decide) (x' := (⟨(rd_T52 x7_2 ji37).f0, (rd_T52 x7_2 ji37).f1, (rd_T52 x7_2 ji37).f2, (rd_T52 x7_2 ji37).f3, ((rd_T52 x7_2 ji37).f4) ++ (⟨#[49]⟩ : ByteArray), (rd_T52 x7_2 ji37).f5, (rd_T52 x7_2 ji37).f6⟩ : S52)) (k52_mkM _ _ _ (⟨(rd_T52 x7_2 ji37).f0, (rd_T52 x7_2 ji37).f1, (rd_T52 x7_2 ji37).f2, (rd_T52 x7_2 ji37).f3, ((rd_T52 x7_2 ji37).f4) ++ (⟨#[49]⟩ : ByteArray), (rd_T52 x7_2 ji37).f5, (rd_T52 x7_2 ji37).f6⟩ : S52) ) (fun _ hk => hk))); (try (have hx48_4 := hcc48 4 _ rfl)); (try (try simp only [show (k52).sz = 7 from rfl, Nat.mul_one, Nat.add_zero] at hx48_4)); (try (have hf48_4 := hfr48 4)); (try (try simp only [show (k52).sz = 7 from rfl, Nat.mul_one, Nat.add_zero] at hf48_4)); (try (clear hcl48 hcc48 hfr48 hM48)))); refine store_event (t := 9) (p := 76) (v := ?vo_w49) (w1 := (wc.setCell ⟨go47, (ji37 : Int).toNat * 7 + 4, none⟩ (.string (((rd_T52 x7_2 ji37).f4) ++ (⟨#[49]⟩ : ByteArray))))) ?hg ?ho ?hn ?hr ?_; (case ho => rfl); (case hg => rfl); (case hn => rfl); (case hr => first | (go_simp; done) | (go_simp; rfl)); intro w49 hw; have hg : wc.grownBy w49 (some go47) := (by rw [hw]; exact HP48.2); have hp_ : Kd.R k52 52 w49 w.heap.size (fun _ => True) (.slice (some ⟨go47, 0, none⟩) x7_2.length co23) y394 := (by rw [hw, Ny394.out]; exact HP48.1); clear HP48; have n0_ := Aside0.mk (hp_); have n1_ := Aside0.mk ((by rw [hw]; exact below_set (HB.out) GB47.out : Below w.heap.size w w49)); clear HO_7; clear HB; have HO_7 := n0_; have HB := n1_; clear n0_ n1_; clear hg hw hp_))
                                        repeat (go_quiet (first | ((with_reducible refine gate_store (t := 9) (p := 76) rfl ?_); (try (rw [drewN_self wc]; generalize hq_ : World.drewN wc _ = wc; have n0_ := Aside0.mk (Kd.R_at hq_ HO_7.out); have n1_ := Aside0.mk (below_at hq_ HB.out); clear hq_ HO_7 HB; have HO_7 := n0_; have HB := n1_; clear n0_ n1_; (try (have HX48 := Aside0.mk (show Kd.R k52 52 wc w.heap.size (fun _ => True) (.slice (some ⟨go47, 0, none⟩) x7_2.length co23) x7_2 from (by (with_reducible repeat (first | apply Kd.R_alloc | apply Kd.R_drewN | apply Kd.R_drew)); exact HO_7.out)))); (try (obtain ⟨ce48, hcl48, hM48, hcc48, hfr48⟩ := Kd.R_elem HX48.out z52 (ji37 : Int) (of_decide_eq_true (by first | (with_reducible assumption) | assumption)) (by have h_ : (ji37 : Int) < ((x7_2.length : Int) : Int) := of_decide_eq_true (by first | (with_reducible assumption) | assumption); first | exact h_ | (have e_ := (Kd.R_reads' HO_7.out).1; omega) | simpa using h_))); (try (obtain rfl := k52_openM hM48)); (try (have HP48 := Kd.R_seg HX48.out (ji37 : Int) (of_decide_eq_true (by first | (with_reducible assumption) | assumption)) (by have h_ : (ji37 : Int) < ((x7_2.length : Int) : Int) := of_decide_eq_true (by first | (with_reducible assumption) | assumption); first | exact h_ | (have e_ := (Kd.R_reads' HO_7.out).1; omega) | simpa using h_) (seg := [.string (((rd_T52 x7_2 ji37).f4) ++ (⟨#[49]⟩ : ByteArray))]) (j := 4) hcl48 hcc48 (show 5 ≤ 7 from by decide) (x' := (⟨(rd_T52 x7_2 ji37).f0, (rd_T52 x7_2 ji37).f1, (rd_T52 x7_2 ji37).f2, (rd_T52 x7_2 ji37).f3, ((rd_T52 x7_2 ji37).f4) ++ (⟨#[49]⟩ : ByteArray), (rd_T52 x7_2 ji37).f5, (rd_T52 x7_2 ji37).f6⟩ : S52)) (k52_mkM _ _ _ (⟨(rd_T52 x7_2 ji37).f0, (rd_T52 x7_2 ji37).f1, (rd_T52 x7_2 ji37).f2, (rd_T52 x7_2 ji37).f3, ((rd_T52 x7_2 ji37).f4) ++ (⟨#[49]⟩ : ByteArray), (rd_T52 x7_2 ji37).f5, (rd_T52 x7_2 ji37).f6⟩ : S52) ) (fun _ hk => hk))); (try (have hx48_4 := hcc48 4 _ rfl)); (try (try simp only [show (k52).sz = 7 from rfl, Nat.mul_one, Nat.add_zero] at hx48_4)); (try (have hf48_4 := hfr48 4)); (try (try simp only [show (k52).sz = 7 from rfl, Nat.mul_one, Nat.add_zero] at hf48_4)); (try (clear hcl48 hcc48 hfr48 hM48)))); refine store_event (t := 9) (p := 76) (v := ?vo_w49) (w1 := (wc.setCell ⟨go47, (ji37 : Int).toNat * 7 + 4, none⟩ (.string (((rd_T52 x7_2 ji37).f4) ++ (⟨#[49]⟩ : ByteArray))))) ?hg ?ho ?hn ?hr ?_; (case ho => rfl); (case hg => rfl); (case hn => rfl); (case hr => first | (go_simp; done) | (go_simp; rfl)); intro w49 hw; have hg : wc.grownBy w49 (some go47) := (by rw [hw]; exact HP48.2); have hp_ : Kd.R k52 52 w49 w.heap.size (fun _ => True) (.slice (some ⟨go47, 0, none⟩) x7_2.length co23) y394 := (by rw [hw, Ny394.out]; exact HP48.1); clear HP48; have n0_ := Aside0.mk (hp_); have n1_ := Aside0.mk ((by rw [hw]; exact below_set (HB.out) GB47.out : Below w.heap.size w w49)); clear HO_7; clear HB; have HO_7 := n0_; have HB := n1_; clear n0_ n1_; clear hg hw hp_)); try go_wp2_with (first | ((with_reducible refine gate_store (t := 9) (p := 76) rfl ?_); (try (rw [drewN_self wc]; generalize hq_ : World.drewN wc _ = wc; have n0_ := Aside0.mk (Kd.R_at hq_ HO_7.out); have n1_ := Aside0.mk (below_at hq_ HB.out); clear hq_ HO_7 HB; have HO_7 := n0_; have HB := n1_; clear n0_ n1_; (try (have HX48 := Aside0.mk (show Kd.R k52 52 wc w.heap.size (fun _ => True) (.slice (some ⟨go47, 0, none⟩) x7_2.length co23) x7_2 from (by (with_reducible repeat (first | apply Kd.R_alloc | apply Kd.R_drewN | apply Kd.R_drew)); exact HO_7.out)))); (try (obtain ⟨ce48, hcl48, hM48, hcc48, hfr48⟩ := Kd.R_elem HX48.out z52 (ji37 : Int) (of_decide_eq_true (by first | (with_reducible assumption) | assumption)) (by have h_ : (ji37 : Int) < ((x7_2.length : Int) : Int) := of_decide_eq_true (by first | (with_reducible assumption) | assumption); first | exact h_ | (have e_ := (Kd.R_reads' HO_7.out).1; omega) | simpa using h_))); (try (obtain rfl := k52_openM hM48)); (try (have HP48 := Kd.R_seg HX48.out (ji37 : Int) (of_decide_eq_true (by first | (with_reducible assumption) | assumption)) (by have h_ : (ji37 : Int) < ((x7_2.length : Int) : Int) := of_decide_eq_true (by first | (with_reducible assumption) | assumption); first | exact h_ | (have e_ := (Kd.R_reads' HO_7.out).1; omega) | simpa using h_) (seg := [.string (((rd_T52 x7_2 ji37).f4) ++ (⟨#[49]⟩ : ByteArray))]) (j := 4) hcl48 hcc48 (show 5 ≤ 7 from by decide) (x' := (⟨(rd_T52 x7_2 ji37).f0, (rd_T52 x7_2 ji37).f1, (rd_T52 x7_2 ji37).f2, (rd_T52 x7_2 ji37).f3, ((rd_T52 x7_2 ji37).f4) ++ (⟨#[49]⟩ : ByteArray), (rd_T52 x7_2 ji37).f5, (rd_T52 x7_2 ji37).f6⟩ : S52)) (k52_mkM _ _ _ (⟨(rd_T52 x7_2 ji37).f0, (rd_T52 x7_2 ji37).f1, (rd_T52 x7_2 ji37).f2, (rd_T52 x7_2 ji37).f3, ((rd_T52 x7_2 ji37).f4) ++ (⟨#[49]⟩ : ByteArray), (rd_T52 x7_2 ji37).f5, (rd_T52 x7_2 ji37).f6⟩ : S52) ) (fun _ hk => hk))); (try (have hx48_4 := hcc48 4 _ rfl)); (try (try simp only [show (k52).sz = 7 from rfl, Nat.mul_one, Nat.add_zero] at hx48_4)); (try (have hf48_4 := hfr48 4)); (try (try simp only [show (k52).sz = 7 from rfl, Nat.mul_one, Nat.add_zero] at hf48_4)); (try (clear hcl48 hcc48 hfr48 hM48)))); refine store_event (t := 9) (p := 76) (v := ?vo_w49) (w1 := (wc.setCell ⟨go47, (ji37 : Int).toNat * 7 + 4, none⟩ (.string (((rd_T52 x7_2 ji37).f4) ++ (⟨#[49]⟩ : ByteArray))))) ?hg ?ho ?hn ?hr ?_; (case ho => rfl); (case hg => rfl); (case hn => rfl); (case hr => first | (go_simp; done) | (go_simp; rfl)); intro w49 hw; have hg : wc.grownBy w49 (some go47) := (by rw [hw]; exact HP48.2); have hp_ : Kd.R k52 52 w49 w.heap.size (fun _ => True) (.slice (some ⟨go47, 0, none⟩) x7_2.length co23) y394 := (by rw [hw, Ny394.out]; exact HP48.1); clear HP48; have n0_ := Aside0.mk (hp_); have n1_ := Aside0.mk ((by rw [hw]; exact below_set (HB.out) GB47.out : Below w.heap.size w w49)); clear HO_7; clear HB; have HO_7 := n0_; have HB := n1_; clear n0_ n1_; clear hg hw hp_)))
                                        go_meet
                                        case rel => exact ⟨_, (y394), H', ⟨by have := HJ3.out; have := HK2.out; have := HJ21.out; have := HJ40.out; first | omega | exact Nat.le_refl _⟩, ⟨by (with_reducible repeat (first | apply Kd.R_alloc | apply Kd.R_drewN | apply Kd.R_drew)); exact HO_7.out⟩, ⟨by repeat (first | (with_reducible first | exact HB.out | apply below_alloc | apply pw_below_drewN | apply below_drew1) | exact HB.out)⟩⟩
                                      · rw [if_neg c46] at H
                                        exact absurd H (by simp)
                                    · rw [if_neg c45] at H
                                      exact absurd H (by simp)
                                  · rw [if_neg c44] at H
                                    exact absurd H (by simp)
                                · replace c43 := Bool.eq_false_iff.mpr c43
                                  subst c43
                                  have H1 : (if ((rd_T52 x7_2 (ji37)).f0) = 8 then (if 0 ≤ ji37 then (if ji37 < (x7_2.length : Int) then (steelyardlaw14_TreeSame.j4 kj40 l0 (x7_2.set (ji37 : Int).toNat (⟨(rd_T52 x7_2 ji37).f0, (rd_T52 x7_2 ji37).f1, (rd_T52 x7_2 ji37).f2, wrap64 (1 - ((rd_T52 x7_2 ji37).f3)), (rd_T52 x7_2 ji37).f4, (rd_T52 x7_2 ji37).f5, (rd_T52 x7_2 ji37).f6⟩ : S52)) ji37) else (none)) else (none)) else (if ((rd_T52 x7_2 (ji37)).f0) = 7 then (if 0 ≤ ji37 then (if ji37 < (x7_2.length : Int) then (steelyardlaw14_TreeSame.j4 kj40 l0 (x7_2.set (ji37 : Int).toNat (⟨8, (rd_T52 x7_2 ji37).f1, (rd_T52 x7_2 ji37).f2, (rd_T52 x7_2 ji37).f3, (rd_T52 x7_2 ji37).f4, (rd_T52 x7_2 ji37).f5, (rd_T52 x7_2 ji37).f6⟩ : S52)) ji37) else (none)) else (none)) else (if 0 ≤ ji37 then (if ji37 < (x7_2.length : Int) then (steelyardlaw14_TreeSame.j4 kj40 l0 (x7_2.set (ji37 : Int).toNat (⟨wrap64 (9 - ((rd_T52 x7_2 ji37).f0)), (rd_T52 x7_2 ji37).f1, (rd_T52 x7_2 ji37).f2, (rd_T52 x7_2 ji37).f3, (rd_T52 x7_2 ji37).f4, (rd_T52 x7_2 ji37).f5, (rd_T52 x7_2 ji37).f6⟩ : S52)) ji37) else (none)) else (none)))) = some r := by rw [if_neg (show ¬ (false = true) by decide)] at H; exact H
                                  clear H
                                  have H := H1
                                  clear H1
                                  by_cases c50 : ((rd_T52 x7_2 (ji37)).f0) = 8
                                  · rw [if_pos c50] at H
                                    have c50b0 : (((rd_T52 x7_2 (ji37)).f0) == 8) = true := beq_iff_eq.mpr c50
                                    have c50b1 : (((rd_T52 x7_2 (ji37)).f0) != 8) = false := bne_eq_false_iff_eq.mpr c50
                                    clear c50
                                    by_cases c51 : 0 ≤ ji37
                                    · rw [if_pos c51] at H
                                      have c51b0 : decide (0 ≤ ji37) = true := decide_eq_true c51
                                      clear c51
                                      by_cases c52 : ji37 < (x7_2.length : Int)
                                      · rw [if_pos c52] at H
                                        have c52b0 : decide (ji37 < (x7_2.length : Int)) = true := decide_eq_true c52
                                        clear c52
                                        obtain ⟨y396, hy396⟩ : ∃ y_ : List (S52), y_ = (x7_2.set (ji37 : Int).toNat (⟨(rd_T52 x7_2 ji37).f0, (rd_T52 x7_2 ji37).f1, (rd_T52 x7_2 ji37).f2, wrap64 (1 - ((rd_T52 x7_2 ji37).f3)), (rd_T52 x7_2 ji37).f4, (rd_T52 x7_2 ji37).f5, (rd_T52 x7_2 ji37).f6⟩ : S52)) := ⟨_, rfl⟩
                                        replace H : (steelyardlaw14_TreeSame.j4 kj40 l0 y396 ji37) = some r := by first | (rw [hy396]; with_reducible exact H) | (have H2_ := (Option.bind_some _ _).symm.trans H; rw [hy396]; with_reducible exact H2_) | (have H2_ := (Option.bind_some _ _).symm.trans H; with_reducible exact H2_) | with_reducible exact H | (rw [hy396]; exact H) | exact H
                                        have Ny396 := Aside0.mk hy396
                                        clear hy396
                                        have H' := Aside0.mk H
                                        clear H
                                        have p395 : 0 ≤ (ji37 : Int) := of_decide_eq_true (by first | (with_reducible assumption) | assumption)
                                        have q395 : ji37 < (x7_2.length : Int) := of_decide_eq_true (by first | (with_reducible assumption) | assumption)
                                        obtain ⟨ad395, e395, hx395_0, hx395_1, hx395_2, hx395_3, hx395_4, hx395_5, hx395_6⟩ := at_T52 (Kd.R_reads' HO_7.out).2.2 ji37 p395 q395
                                        obtain rfl : ad392 = ad395 := (by injection e395)
                                        replace p395 := eq_true p395
                                        replace q395 := eq_true q395
                                        have p53 : 0 ≤ (ji37 : Int) := of_decide_eq_true (by first | (with_reducible assumption) | assumption)
                                        have q53 : (ji37 : Int) < ((x7_2.length : Int) : Int) := of_decide_eq_true (by first | (with_reducible assumption) | assumption)
                                        obtain ⟨go53, co53, eo53, gb53, gl53, cl53, HG53⟩ := Kd.R_form HO_7.out (by omega)
                                        (first | cases eo53 | (injection eo53 with ea_ en_ ec_; (first | subst ea_ | (injection ea_ with ea_; subst ea_)); subst ec_; clear en_))
                                        have GB53 := Aside0.mk gb53
                                        have GG53 := Aside0.mk HG53
                                        clear gb53 gl53 HG53
                                        (first | simp only [add_plain] at hx395_0 | skip)
                                        (first | simp only [add_plain] at hx395_1 | skip)
                                        (first | simp only [add_plain] at hx395_2 | skip)
                                        (first | simp only [add_plain] at hx395_3 | skip)
                                        (first | simp only [add_plain] at hx395_4 | skip)
                                        (first | simp only [add_plain] at hx395_5 | skip)
                                        (first | simp only [add_plain] at hx395_6 | skip)
                                        obtain ⟨ce53, hcl53, hM53, hcc53, hfr53⟩ := Kd.R_elem HO_7.out z52 (ji37 : Int) p53 q53
                                        obtain rfl := k52_openM hM53
                                        have hx53_0 : wc.cell? ⟨go53, (ji37 : Int).toNat * 7, none⟩ = some (.int .i64 ((rd_T52 x7_2 ji37).f0)) := hcc53 0 _ rfl
                                        have hx53_1 : wc.cell? ⟨go53, (ji37 : Int).toNat * 7 + 1, none⟩ = some (.int .i64 ((rd_T52 x7_2 ji37).f1)) := hcc53 1 _ rfl
                                        have hx53_2 : wc.cell? ⟨go53, (ji37 : Int).toNat * 7 + 2, none⟩ = some (.int .i64 ((rd_T52 x7_2 ji37).f2)) := hcc53 2 _ rfl
                                        have hx53_3 : wc.cell? ⟨go53, (ji37 : Int).toNat * 7 + 3, none⟩ = some (.int .i64 ((rd_T52 x7_2 ji37).f3)) := hcc53 3 _ rfl
                                        have hx53_4 : wc.cell? ⟨go53, (ji37 : Int).toNat * 7 + 4, none⟩ = some (.string ((rd_T52 x7_2 ji37).f4)) := hcc53 4 _ rfl
                                        have hx53_5 : wc.cell? ⟨go53, (ji37 : Int).toNat * 7 + 5, none⟩ = some (.string ((rd_T52 x7_2 ji37).f5)) := hcc53 5 _ rfl
                                        have hx53_6 : wc.cell? ⟨go53, (ji37 : Int).toNat * 7 + 6, none⟩ = some (.int .i64 ((rd_T52 x7_2 ji37).f6)) := hcc53 6 _ rfl
                                        have hf53_0 : wc.frozen? ⟨go53, (ji37 : Int).toNat * 7, none⟩ = false := hfr53 0
                                        have hf53_1 : wc.frozen? ⟨go53, (ji37 : Int).toNat * 7 + 1, none⟩ = false := hfr53 1
                                        have hf53_2 : wc.frozen? ⟨go53, (ji37 : Int).toNat * 7 + 2, none⟩ = false := hfr53 2
                                        have hf53_3 : wc.frozen? ⟨go53, (ji37 : Int).toNat * 7 + 3, none⟩ = false := hfr53 3
                                        have hf53_4 : wc.frozen? ⟨go53, (ji37 : Int).toNat * 7 + 4, none⟩ = false := hfr53 4
                                        have hf53_5 : wc.frozen? ⟨go53, (ji37 : Int).toNat * 7 + 5, none⟩ = false := hfr53 5
                                        have hf53_6 : wc.frozen? ⟨go53, (ji37 : Int).toNat * 7 + 6, none⟩ = false := hfr53 6
                                        clear hcl53 hcc53 hfr53 hM53
                                        replace p53 := eq_true p53
                                        replace q53 := eq_true q53
                                        have HX54 := Aside0.mk (show Kd.R k52 52 wc w.heap.size (fun _ => True) (.slice (some ⟨go53, 0, none⟩) x7_2.length co23) x7_2 from (by (with_reducible repeat (first | apply Kd.R_alloc | apply Kd.R_drewN | apply Kd.R_drew)); exact HO_7.out))
                                        obtain ⟨ce54, hcl54, hM54, hcc54, hfr54⟩ := Kd.R_elem HX54.out z52 (ji37 : Int) (of_decide_eq_true (by first | (with_reducible assumption) | assumption)) (by have h_ : (ji37 : Int) < ((x7_2.length : Int) : Int) := of_decide_eq_true (by first | (with_reducible assumption) | assumption); first | exact h_ | (have e_ := (Kd.R_reads' HO_7.out).1; omega) | simpa using h_)
                                        obtain rfl := k52_openM hM54
                                        have HP54 := Kd.R_seg HX54.out (ji37 : Int) (of_decide_eq_true (by first | (with_reducible assumption) | assumption)) (by have h_ : (ji37 : Int) < ((x7_2.length : Int) : Int) := of_decide_eq_true (by first | (with_reducible assumption) | assumption); first | exact h_ | (have e_ := (Kd.R_reads' HO_7.out).1; omega) | simpa using h_) (seg := [.int .i64 (wrap64 (1 - ((rd_T52 x7_2 ji37).f3)))]) (j := 3) hcl54 hcc54 (show 4 ≤ 7 from by decide) (x' := (⟨(rd_T52 x7_2 ji37).f0, (rd_T52 x7_2 ji37).f1, (rd_T52 x7_2 ji37).f2, wrap64 (1 - ((rd_T52 x7_2 ji37).f3)), (rd_T52 x7_2 ji37).f4, (rd_T52 x7_2 ji37).f5, (rd_T52 x7_2 ji37).f6⟩ : S52)) (k52_mkM _ _ _ (⟨(rd_T52 x7_2 ji37).f0, (rd_T52 x7_2 ji37).f1, (rd_T52 x7_2 ji37).f2, wrap64 (1 - ((rd_T52 x7_2 ji37).f3)), (rd_T52 x7_2 ji37).f4, (rd_T52 x7_2 ji37).f5, (rd_T52 x7_2 ji37).f6⟩ : S52) ) (fun _ hk => hk)
                                        have hx54_3 := hcc54 3 _ rfl
                                        (try simp only [show (k52).sz = 7 from rfl, Nat.mul_one, Nat.add_zero] at hx54_3)
                                        have hf54_3 := hfr54 3
                                        (try simp only [show (k52).sz = 7 from rfl, Nat.mul_one, Nat.add_zero] at hf54_3)
                                        clear hcl54 hcc54 hfr54 hM54
                                        go_wp2_with (first | ((with_reducible refine gate_store (t := 3) (p := 88) rfl ?_); (try (rw [drewN_self wc]; generalize hq_ : World.drewN wc _ = wc; have n0_ := Aside0.mk (Kd.R_at hq_ HO_7.out); have n1_ := Aside0.mk (below_at hq_ HB.out); clear hq_ HO_7 HB; have HO_7 := n0_; have HB := n1_; clear n0_ n1_; (try (have HX54 := Aside0.mk (show Kd.R k52 52 wc w.heap.size (fun _ => True) (.slice (some ⟨go53, 0, none⟩) x7_2.length co23) x7_2 from (by (with_reducible repeat (first | apply Kd.R_alloc | apply Kd.R_drewN | apply Kd.R_drew)); exact HO_7.out)))); (try (obtain ⟨ce54, hcl54, hM54, hcc54, hfr54⟩ := Kd.R_elem HX54.out z52 (ji37 : Int) (of_decide_eq_true (by first | (with_reducible assumption) | assumption)) (by have h_ : (ji37 : Int) < ((x7_2.length : Int) : Int) := of_decide_eq_true (by first | (with_reducible assumption) | assumption); first | exact h_ | (have e_ := (Kd.R_reads' HO_7.out).1; omega) | simpa using h_))); (try (obtain rfl := k52_openM hM54)); (try (have HP54 := Kd.R_seg HX54.out (ji37 : Int) (of_decide_eq_true (by first | (with_reducible assumption) | assumption)) (by have h_ : (ji37 : Int) < ((x7_2.length : Int) : Int) := of_decide_eq_true (by first | (with_reducible assumption) | assumption); first | exact h_ | (have e_ := (Kd.R_reads' HO_7.out).1; omega) | simpa using h_) (seg := [.int .i64 (wrap64 (1 - ((rd_T52 x7_2 ji37).f3)))]) (j := 3) hcl54 hcc54 (show 4 ≤ 7 from by decide) (x' := (⟨(rd_T52 x7_2 ji37).f0, (rd_T52 x7_2 ji37).f1, (rd_T52 x7_2 ji37).f2, wrap64 (1 - ((rd_T52 x7_2 ji37).f3)), (rd_T52 x7_2 ji37).f4, (rd_T52 x7_2 ji37).f5, (rd_T52 x7_2 ji37).f6⟩ : S52)) (k52_mkM _ _ _ (⟨(rd_T52 x7_2 ji37).f0, (rd_T52 x7_2 ji37).f1, (rd_T52 x7_2 ji37).f2, wrap64 (1 - ((rd_T52 x7_2 ji37).f3)), (rd_T52 x7_2 ji37).f4, (rd_T52 x7_2 ji37).f5, (rd_T52 x7_2 ji37).f6⟩ : S52) ) (fun _ hk => hk))); (try (have hx54_3 := hcc54 3 _ rfl)); (try (try simp only [show (k52).sz = 7 from rfl, Nat.mul_one, Nat.add_zero] at hx54_3)); (try (have hf54_3 := hfr54 3)); (try (try simp only [show (k52).sz = 7 from rfl, Nat.mul_one, Nat.add_zero] at hf54_3)); (try (clear hcl54 hcc54 hfr54 hM54)))); refine store_event (t := 3) (p := 88) (v := ?vo_w55) (w1 := (wc.setCell ⟨go53, (ji37 : Int).toNat * 7 + 3, none⟩ (.int .i64 (wrap64 (1 - ((rd_T52 x7_2 ji37).f3)))))) ?hg ?ho ?hn ?hr ?_; (case ho => rfl); (case hg => rfl); (case hn => rfl); (case hr => first | (go_simp; done) | (go_simp; rfl)); intro w55 hw; have hg : wc.grownBy w55 (some go53) := (by rw [hw]; exact HP54.2); have hp_ : Kd.R k52 52 w55 w.heap.size (fun _ => True) (.slice (some ⟨go53, 0, none⟩) x7_2.length co23) y396 := (by rw [hw, Ny396.out]; exact HP54.1); clear HP54; have n0_ := Aside0.mk (hp_); have n1_ := Aside0.mk ((by rw [hw]; exact below_set (HB.out) GB53.out : Below w.heap.size w w55)); clear HO_7; clear HB; have HO_7 := n0_; have HB := n1_; clear n0_ n1_; clear hg hw hp_))
                                        repeat (go_quiet (first | ((with_reducible refine gate_store (t := 3) (p := 88) rfl ?_); (try (rw [drewN_self wc]; generalize hq_ : World.drewN wc _ = wc; have n0_ := Aside0.mk (Kd.R_at hq_ HO_7.out); have n1_ := Aside0.mk (below_at hq_ HB.out); clear hq_ HO_7 HB; have HO_7 := n0_; have HB := n1_; clear n0_ n1_; (try (have HX54 := Aside0.mk (show Kd.R k52 52 wc w.heap.size (fun _ => True) (.slice (some ⟨go53, 0, none⟩) x7_2.length co23) x7_2 from (by (with_reducible repeat (first | apply Kd.R_alloc | apply Kd.R_drewN | apply Kd.R_drew)); exact HO_7.out)))); (try (obtain ⟨ce54, hcl54, hM54, hcc54, hfr54⟩ := Kd.R_elem HX54.out z52 (ji37 : Int) (of_decide_eq_true (by first | (with_reducible assumption) | assumption)) (by have h_ : (ji37 : Int) < ((x7_2.length : Int) : Int) := of_decide_eq_true (by first | (with_reducible assumption) | assumption); first | exact h_ | (have e_ := (Kd.R_reads' HO_7.out).1; omega) | simpa using h_))); (try (obtain rfl := k52_openM hM54)); (try (have HP54 := Kd.R_seg HX54.out (ji37 : Int) (of_decide_eq_true (by first | (with_reducible assumption) | assumption)) (by have h_ : (ji37 : Int) < ((x7_2.length : Int) : Int) := of_decide_eq_true (by first | (with_reducible assumption) | assumption); first | exact h_ | (have e_ := (Kd.R_reads' HO_7.out).1; omega) | simpa using h_) (seg := [.int .i64 (wrap64 (1 - ((rd_T52 x7_2 ji37).f3)))]) (j := 3) hcl54 hcc54 (show 4 ≤ 7 from by decide) (x' := (⟨(rd_T52 x7_2 ji37).f0, (rd_T52 x7_2 ji37).f1, (rd_T52 x7_2 ji37).f2, wrap64 (1 - ((rd_T52 x7_2 ji37).f3)), (rd_T52 x7_2 ji37).f4, (rd_T52 x7_2 ji37).f5, (rd_T52 x7_2 ji37).f6⟩ : S52)) (k52_mkM _ _ _ (⟨(rd_T52 x7_2 ji37).f0, (rd_T52 x7_2 ji37).f1, (rd_T52 x7_2 ji37).f2, wrap64 (1 - ((rd_T52 x7_2 ji37).f3)), (rd_T52 x7_2 ji37).f4, (rd_T52 x7_2 ji37).f5, (rd_T52 x7_2 ji37).f6⟩ : S52) ) (fun _ hk => hk))); (try (have hx54_3 := hcc54 3 _ rfl)); (try (try simp only [show (k52).sz = 7 from rfl, Nat.mul_one, Nat.add_zero] at hx54_3)); (try (have hf54_3 := hfr54 3)); (try (try simp only [show (k52).sz = 7 from rfl, Nat.mul_one, Nat.add_zero] at hf54_3)); (try (clear hcl54 hcc54 hfr54 hM54)))); refine store_event (t := 3) (p := 88) (v := ?vo_w55) (w1 := (wc.setCell ⟨go53, (ji37 : Int).toNat * 7 + 3, none⟩ (.int .i64 (wrap64 (1 - ((rd_T52 x7_2 ji37).f3)))))) ?hg ?ho ?hn ?hr ?_; (case ho => rfl); (case hg => rfl); (case hn => rfl); (case hr => first | (go_simp; done) | (go_simp; rfl)); intro w55 hw; have hg : wc.grownBy w55 (some go53) := (by rw [hw]; exact HP54.2); have hp_ : Kd.R k52 52 w55 w.heap.size (fun _ => True) (.slice (some ⟨go53, 0, none⟩) x7_2.length co23) y396 := (by rw [hw, Ny396.out]; exact HP54.1); clear HP54; have n0_ := Aside0.mk (hp_); have n1_ := Aside0.mk ((by rw [hw]; exact below_set (HB.out) GB53.out : Below w.heap.size w w55)); clear HO_7; clear HB; have HO_7 := n0_; have HB := n1_; clear n0_ n1_; clear hg hw hp_)); try go_wp2_with (first | ((with_reducible refine gate_store (t := 3) (p := 88) rfl ?_); (try (rw [drewN_self wc]; generalize hq_ : World.drewN wc _ = wc; have n0_ := Aside0.mk (Kd.R_at hq_ HO_7.out); have n1_ := Aside0.mk (below_at hq_ HB.out); clear hq_ HO_7 HB; have HO_7 := n0_; have HB := n1_; clear n0_ n1_; (try (have HX54 := Aside0.mk (show Kd.R k52 52 wc w.heap.size (fun _ => True) (.slice (some ⟨go53, 0, none⟩) x7_2.length co23) x7_2 from (by (with_reducible repeat (first | apply Kd.R_alloc | apply Kd.R_drewN | apply Kd.R_drew)); exact HO_7.out)))); (try (obtain ⟨ce54, hcl54, hM54, hcc54, hfr54⟩ := Kd.R_elem HX54.out z52 (ji37 : Int) (of_decide_eq_true (by first | (with_reducible assumption) | assumption)) (by have h_ : (ji37 : Int) < ((x7_2.length : Int) : Int) := of_decide_eq_true (by first | (with_reducible assumption) | assumption); first | exact h_ | (have e_ := (Kd.R_reads' HO_7.out).1; omega) | simpa using h_))); (try (obtain rfl := k52_openM hM54)); (try (have HP54 := Kd.R_seg HX54.out (ji37 : Int) (of_decide_eq_true (by first | (with_reducible assumption) | assumption)) (by have h_ : (ji37 : Int) < ((x7_2.length : Int) : Int) := of_decide_eq_true (by first | (with_reducible assumption) | assumption); first | exact h_ | (have e_ := (Kd.R_reads' HO_7.out).1; omega) | simpa using h_) (seg := [.int .i64 (wrap64 (1 - ((rd_T52 x7_2 ji37).f3)))]) (j := 3) hcl54 hcc54 (show 4 ≤ 7 from by decide) (x' := (⟨(rd_T52 x7_2 ji37).f0, (rd_T52 x7_2 ji37).f1, (rd_T52 x7_2 ji37).f2, wrap64 (1 - ((rd_T52 x7_2 ji37).f3)), (rd_T52 x7_2 ji37).f4, (rd_T52 x7_2 ji37).f5, (rd_T52 x7_2 ji37).f6⟩ : S52)) (k52_mkM _ _ _ (⟨(rd_T52 x7_2 ji37).f0, (rd_T52 x7_2 ji37).f1, (rd_T52 x7_2 ji37).f2, wrap64 (1 - ((rd_T52 x7_2 ji37).f3)), (rd_T52 x7_2 ji37).f4, (rd_T52 x7_2 ji37).f5, (rd_T52 x7_2 ji37).f6⟩ : S52) ) (fun _ hk => hk))); (try (have hx54_3 := hcc54 3 _ rfl)); (try (try simp only [show (k52).sz = 7 from rfl, Nat.mul_one, Nat.add_zero] at hx54_3)); (try (have hf54_3 := hfr54 3)); (try (try simp only [show (k52).sz = 7 from rfl, Nat.mul_one, Nat.add_zero] at hf54_3)); (try (clear hcl54 hcc54 hfr54 hM54)))); refine store_event (t := 3) (p := 88) (v := ?vo_w55) (w1 := (wc.setCell ⟨go53, (ji37 : Int).toNat * 7 + 3, none⟩ (.int .i64 (wrap64 (1 - ((rd_T52 x7_2 ji37).f3)))))) ?hg ?ho ?hn ?hr ?_; (case ho => rfl); (case hg => rfl); (case hn => rfl); (case hr => first | (go_simp; done) | (go_simp; rfl)); intro w55 hw; have hg : wc.grownBy w55 (some go53) := (by rw [hw]; exact HP54.2); have hp_ : Kd.R k52 52 w55 w.heap.size (fun _ => True) (.slice (some ⟨go53, 0, none⟩) x7_2.length co23) y396 := (by rw [hw, Ny396.out]; exact HP54.1); clear HP54; have n0_ := Aside0.mk (hp_); have n1_ := Aside0.mk ((by rw [hw]; exact below_set (HB.out) GB53.out : Below w.heap.size w w55)); clear HO_7; clear HB; have HO_7 := n0_; have HB := n1_; clear n0_ n1_; clear hg hw hp_)))
                                        go_meet
                                        case rel => exact ⟨_, (y396), H', ⟨by have := HJ3.out; have := HK2.out; have := HJ21.out; have := HJ40.out; first | omega | exact Nat.le_refl _⟩, ⟨by (with_reducible repeat (first | apply Kd.R_alloc | apply Kd.R_drewN | apply Kd.R_drew)); exact HO_7.out⟩, ⟨by repeat (first | (with_reducible first | exact HB.out | apply below_alloc | apply pw_below_drewN | apply below_drew1) | exact HB.out)⟩⟩
                                      · rw [if_neg c52] at H
                                        exact absurd H (by simp)
                                    · rw [if_neg c51] at H
                                      exact absurd H (by simp)
                                  · rw [if_neg c50] at H
                                    have c50b0 : (((rd_T52 x7_2 (ji37)).f0) == 8) = false := beq_eq_false_iff_ne.mpr c50
                                    have c50b1 : (((rd_T52 x7_2 (ji37)).f0) != 8) = true := bne_iff_ne.mpr c50
                                    by_cases c56 : ((rd_T52 x7_2 (ji37)).f0) = 7
                                    · rw [if_pos c56] at H
                                      have c56b0 : (((rd_T52 x7_2 (ji37)).f0) == 7) = true := beq_iff_eq.mpr c56
                                      have c56b1 : (((rd_T52 x7_2 (ji37)).f0) != 7) = false := bne_eq_false_iff_eq.mpr c56
                                      clear c56
                                      by_cases c57 : 0 ≤ ji37
                                      · rw [if_pos c57] at H
                                        have c57b0 : decide (0 ≤ ji37) = true := decide_eq_true c57
                                        clear c57
                                        by_cases c58 : ji37 < (x7_2.length : Int)
                                        · rw [if_pos c58] at H
                                          have c58b0 : decide (ji37 < (x7_2.length : Int)) = true := decide_eq_true c58
                                          clear c58
                                          obtain ⟨y397, hy397⟩ : ∃ y_ : List (S52), y_ = (x7_2.set (ji37 : Int).toNat (⟨8, (rd_T52 x7_2 ji37).f1, (rd_T52 x7_2 ji37).f2, (rd_T52 x7_2 ji37).f3, (rd_T52 x7_2 ji37).f4, (rd_T52 x7_2 ji37).f5, (rd_T52 x7_2 ji37).f6⟩ : S52)) := ⟨_, rfl⟩
                                          replace H : (steelyardlaw14_TreeSame.j4 kj40 l0 y397 ji37) = some r := by first | (rw [hy397]; with_reducible exact H) | (have H2_ := (Option.bind_some _ _).symm.trans H; rw [hy397]; with_reducible exact H2_) | (have H2_ := (Option.bind_some _ _).symm.trans H; with_reducible exact H2_) | with_reducible exact H | (rw [hy397]; exact H) | exact H
                                          have Ny397 := Aside0.mk hy397
                                          clear hy397
                                          have H' := Aside0.mk H
                                          clear H
                                          have p59 : 0 ≤ (ji37 : Int) := of_decide_eq_true (by first | (with_reducible assumption) | assumption)
                                          have q59 : (ji37 : Int) < ((x7_2.length : Int) : Int) := of_decide_eq_true (by first | (with_reducible assumption) | assumption)
                                          obtain ⟨go59, co59, eo59, gb59, gl59, cl59, HG59⟩ := Kd.R_form HO_7.out (by omega)
                                          (first | cases eo59 | (injection eo59 with ea_ en_ ec_; (first | subst ea_ | (injection ea_ with ea_; subst ea_)); subst ec_; clear en_))
                                          have GB59 := Aside0.mk gb59
                                          have GG59 := Aside0.mk HG59
                                          clear gb59 gl59 HG59
                                          obtain ⟨ce59, hcl59, hM59, hcc59, hfr59⟩ := Kd.R_elem HO_7.out z52 (ji37 : Int) p59 q59
                                          obtain rfl := k52_openM hM59
                                          have hx59_0 : wc.cell? ⟨go59, (ji37 : Int).toNat * 7, none⟩ = some (.int .i64 ((rd_T52 x7_2 ji37).f0)) := hcc59 0 _ rfl
                                          have hx59_1 : wc.cell? ⟨go59, (ji37 : Int).toNat * 7 + 1, none⟩ = some (.int .i64 ((rd_T52 x7_2 ji37).f1)) := hcc59 1 _ rfl
                                          have hx59_2 : wc.cell? ⟨go59, (ji37 : Int).toNat * 7 + 2, none⟩ = some (.int .i64 ((rd_T52 x7_2 ji37).f2)) := hcc59 2 _ rfl
                                          have hx59_3 : wc.cell? ⟨go59, (ji37 : Int).toNat * 7 + 3, none⟩ = some (.int .i64 ((rd_T52 x7_2 ji37).f3)) := hcc59 3 _ rfl
                                          have hx59_4 : wc.cell? ⟨go59, (ji37 : Int).toNat * 7 + 4, none⟩ = some (.string ((rd_T52 x7_2 ji37).f4)) := hcc59 4 _ rfl
                                          have hx59_5 : wc.cell? ⟨go59, (ji37 : Int).toNat * 7 + 5, none⟩ = some (.string ((rd_T52 x7_2 ji37).f5)) := hcc59 5 _ rfl
                                          have hx59_6 : wc.cell? ⟨go59, (ji37 : Int).toNat * 7 + 6, none⟩ = some (.int .i64 ((rd_T52 x7_2 ji37).f6)) := hcc59 6 _ rfl
                                          have hf59_0 : wc.frozen? ⟨go59, (ji37 : Int).toNat * 7, none⟩ = false := hfr59 0
                                          have hf59_1 : wc.frozen? ⟨go59, (ji37 : Int).toNat * 7 + 1, none⟩ = false := hfr59 1
                                          have hf59_2 : wc.frozen? ⟨go59, (ji37 : Int).toNat * 7 + 2, none⟩ = false := hfr59 2
                                          have hf59_3 : wc.frozen? ⟨go59, (ji37 : Int).toNat * 7 + 3, none⟩ = false := hfr59 3
                                          have hf59_4 : wc.frozen? ⟨go59, (ji37 : Int).toNat * 7 + 4, none⟩ = false := hfr59 4
                                          have hf59_5 : wc.frozen? ⟨go59, (ji37 : Int).toNat * 7 + 5, none⟩ = false := hfr59 5
                                          have hf59_6 : wc.frozen? ⟨go59, (ji37 : Int).toNat * 7 + 6, none⟩ = false := hfr59 6
                                          clear hcl59 hcc59 hfr59 hM59
                                          replace p59 := eq_true p59
                                          replace q59 := eq_true q59
                                          have HX60 := Aside0.mk (show Kd.R k52 52 wc w.heap.size (fun _ => True) (.slice (some ⟨go59, 0, none⟩) x7_2.length co23) x7_2 from (by (with_reducible repeat (first | apply Kd.R_alloc | apply Kd.R_drewN | apply Kd.R_drew)); exact HO_7.out))
                                          obtain ⟨ce60, hcl60, hM60, hcc60, hfr60⟩ := Kd.R_elem HX60.out z52 (ji37 : Int) (of_decide_eq_true (by first | (with_reducible assumption) | assumption)) (by have h_ : (ji37 : Int) < ((x7_2.length : Int) : Int) := of_decide_eq_true (by first | (with_reducible assumption) | assumption); first | exact h_ | (have e_ := (Kd.R_reads' HO_7.out).1; omega) | simpa using h_)
                                          obtain rfl := k52_openM hM60
                                          have HP60 := Kd.R_seg HX60.out (ji37 : Int) (of_decide_eq_true (by first | (with_reducible assumption) | assumption)) (by have h_ : (ji37 : Int) < ((x7_2.length : Int) : Int) := of_decide_eq_true (by first | (with_reducible assumption) | assumption); first | exact h_ | (have e_ := (Kd.R_reads' HO_7.out).1; omega) | simpa using h_) (seg := [.int .i64 8]) (j := 0) hcl60 hcc60 (show 1 ≤ 7 from by decide) (x' := (⟨8, (rd_T52 x7_2 ji37).f1, (rd_T52 x7_2 ji37).f2, (rd_T52 x7_2 ji37).f3, (rd_T52 x7_2 ji37).f4, (rd_T52 x7_2 ji37).f5, (rd_T52 x7_2 ji37).f6⟩ : S52)) (k52_mkM _ _ _ (⟨8, (rd_T52 x7_2 ji37).f1, (rd_T52 x7_2 ji37).f2, (rd_T52 x7_2 ji37).f3, (rd_T52 x7_2 ji37).f4, (rd_T52 x7_2 ji37).f5, (rd_T52 x7_2 ji37).f6⟩ : S52) ) (fun _ hk => hk)
                                          have hx60_0 := hcc60 0 _ rfl
                                          (try simp only [show (k52).sz = 7 from rfl, Nat.mul_one, Nat.add_zero] at hx60_0)
                                          have hf60_0 := hfr60 0
                                          (try simp only [show (k52).sz = 7 from rfl, Nat.mul_one, Nat.add_zero] at hf60_0)
                                          clear hcl60 hcc60 hfr60 hM60
                                          go_wp2_with (first | ((with_reducible refine gate_store (t := 3) (p := 94) rfl ?_); (try (rw [drewN_self wc]; generalize hq_ : World.drewN wc _ = wc; have n0_ := Aside0.mk (Kd.R_at hq_ HO_7.out); have n1_ := Aside0.mk (below_at hq_ HB.out); clear hq_ HO_7 HB; have HO_7 := n0_; have HB := n1_; clear n0_ n1_; (try (have HX60 := Aside0.mk (show Kd.R k52 52 wc w.heap.size (fun _ => True) (.slice (some ⟨go59, 0, none⟩) x7_2.length co23) x7_2 from (by (with_reducible repeat (first | apply Kd.R_alloc | apply Kd.R_drewN | apply Kd.R_drew)); exact HO_7.out)))); (try (obtain ⟨ce60, hcl60, hM60, hcc60, hfr60⟩ := Kd.R_elem HX60.out z52 (ji37 : Int) (of_decide_eq_true (by first | (with_reducible assumption) | assumption)) (by have h_ : (ji37 : Int) < ((x7_2.length : Int) : Int) := of_decide_eq_true (by first | (with_reducible assumption) | assumption); first | exact h_ | (have e_ := (Kd.R_reads' HO_7.out).1; omega) | simpa using h_))); (try (obtain rfl := k52_openM hM60)); (try (have HP60 := Kd.R_seg HX60.out (ji37 : Int) (of_decide_eq_true (by first | (with_reducible assumption) | assumption)) (by have h_ : (ji37 : Int) < ((x7_2.length : Int) : Int) := of_decide_eq_true (by first | (with_reducible assumption) | assumption); first | exact h_ | (have e_ := (Kd.R_reads' HO_7.out).1; omega) | simpa using h_) (seg := [.int .i64 8]) (j := 0) hcl60 hcc60 (show 1 ≤ 7 from by decide) (x' := (⟨8, (rd_T52 x7_2 ji37).f1, (rd_T52 x7_2 ji37).f2, (rd_T52 x7_2 ji37).f3, (rd_T52 x7_2 ji37).f4, (rd_T52 x7_2 ji37).f5, (rd_T52 x7_2 ji37).f6⟩ : S52)) (k52_mkM _ _ _ (⟨8, (rd_T52 x7_2 ji37).f1, (rd_T52 x7_2 ji37).f2, (rd_T52 x7_2 ji37).f3, (rd_T52 x7_2 ji37).f4, (rd_T52 x7_2 ji37).f5, (rd_T52 x7_2 ji37).f6⟩ : S52) ) (fun _ hk => hk))); (try (have hx60_0 := hcc60 0 _ rfl)); (try (try simp only [show (k52).sz = 7 from rfl, Nat.mul_one, Nat.add_zero] at hx60_0)); (try (have hf60_0 := hfr60 0)); (try (try simp only [show (k52).sz = 7 from rfl, Nat.mul_one, Nat.add_zero] at hf60_0)); (try (clear hcl60 hcc60 hfr60 hM60)))); refine store_event (t := 3) (p := 94) (v := ?vo_w61) (w1 := (wc.setCell ⟨go59, (ji37 : Int).toNat * 7, none⟩ (.int .i64 8))) ?hg ?ho ?hn ?hr ?_; (case ho => rfl); (case hg => rfl); (case hn => rfl); (case hr => first | (go_simp; done) | (go_simp; rfl)); intro w61 hw; have hg : wc.grownBy w61 (some go59) := (by rw [hw]; exact HP60.2); have hp_ : Kd.R k52 52 w61 w.heap.size (fun _ => True) (.slice (some ⟨go59, 0, none⟩) x7_2.length co23) y397 := (by rw [hw, Ny397.out]; exact HP60.1); clear HP60; have n0_ := Aside0.mk (hp_); have n1_ := Aside0.mk ((by rw [hw]; exact below_set (HB.out) GB59.out : Below w.heap.size w w61)); clear HO_7; clear HB; have HO_7 := n0_; have HB := n1_; clear n0_ n1_; clear hg hw hp_))
                                          repeat (go_quiet (first | ((with_reducible refine gate_store (t := 3) (p := 94) rfl ?_); (try (rw [drewN_self wc]; generalize hq_ : World.drewN wc _ = wc; have n0_ := Aside0.mk (Kd.R_at hq_ HO_7.out); have n1_ := Aside0.mk (below_at hq_ HB.out); clear hq_ HO_7 HB; have HO_7 := n0_; have HB := n1_; clear n0_ n1_; (try (have HX60 := Aside0.mk (show Kd.R k52 52 wc w.heap.size (fun _ => True) (.slice (some ⟨go59, 0, none⟩) x7_2.length co23) x7_2 from (by (with_reducible repeat (first | apply Kd.R_alloc | apply Kd.R_drewN | apply Kd.R_drew)); exact HO_7.out)))); (try (obtain ⟨ce60, hcl60, hM60, hcc60, hfr60⟩ := Kd.R_elem HX60.out z52 (ji37 : Int) (of_decide_eq_true (by first | (with_reducible assumption) | assumption)) (by have h_ : (ji37 : Int) < ((x7_2.length : Int) : Int) := of_decide_eq_true (by first | (with_reducible assumption) | assumption); first | exact h_ | (have e_ := (Kd.R_reads' HO_7.out).1; omega) | simpa using h_))); (try (obtain rfl := k52_openM hM60)); (try (have HP60 := Kd.R_seg HX60.out (ji37 : Int) (of_decide_eq_true (by first | (with_reducible assumption) | assumption)) (by have h_ : (ji37 : Int) < ((x7_2.length : Int) : Int) := of_decide_eq_true (by first | (with_reducible assumption) | assumption); first | exact h_ | (have e_ := (Kd.R_reads' HO_7.out).1; omega) | simpa using h_) (seg := [.int .i64 8]) (j := 0) hcl60 hcc60 (show 1 ≤ 7 from by decide) (x' := (⟨8, (rd_T52 x7_2 ji37).f1, (rd_T52 x7_2 ji37).f2, (rd_T52 x7_2 ji37).f3, (rd_T52 x7_2 ji37).f4, (rd_T52 x7_2 ji37).f5, (rd_T52 x7_2 ji37).f6⟩ : S52)) (k52_mkM _ _ _ (⟨8, (rd_T52 x7_2 ji37).f1, (rd_T52 x7_2 ji37).f2, (rd_T52 x7_2 ji37).f3, (rd_T52 x7_2 ji37).f4, (rd_T52 x7_2 ji37).f5, (rd_T52 x7_2 ji37).f6⟩ : S52) ) (fun _ hk => hk))); (try (have hx60_0 := hcc60 0 _ rfl)); (try (try simp only [show (k52).sz = 7 from rfl, Nat.mul_one, Nat.add_zero] at hx60_0)); (try (have hf60_0 := hfr60 0)); (try (try simp only [show (k52).sz = 7 from rfl, Nat.mul_one, Nat.add_zero] at hf60_0)); (try (clear hcl60 hcc60 hfr60 hM60)))); refine store_event (t := 3) (p := 94) (v := ?vo_w61) (w1 := (wc.setCell ⟨go59, (ji37 : Int).toNat * 7, none⟩ (.int .i64 8))) ?hg ?ho ?hn ?hr ?_; (case ho => rfl); (case hg => rfl); (case hn => rfl); (case hr => first | (go_simp; done) | (go_simp; rfl)); intro w61 hw; have hg : wc.grownBy w61 (some go59) := (by rw [hw]; exact HP60.2); have hp_ : Kd.R k52 52 w61 w.heap.size (fun _ => True) (.slice (some ⟨go59, 0, none⟩) x7_2.length co23) y397 := (by rw [hw, Ny397.out]; exact HP60.1); clear HP60; have n0_ := Aside0.mk (hp_); have n1_ := Aside0.mk ((by rw [hw]; exact below_set (HB.out) GB59.out : Below w.heap.size w w61)); clear HO_7; clear HB; have HO_7 := n0_; have HB := n1_; clear n0_ n1_; clear hg hw hp_)); try go_wp2_with (first | ((with_reducible refine gate_store (t := 3) (p := 94) rfl ?_); (try (rw [drewN_self wc]; generalize hq_ : World.drewN wc _ = wc; have n0_ := Aside0.mk (Kd.R_at hq_ HO_7.out); have n1_ := Aside0.mk (below_at hq_ HB.out); clear hq_ HO_7 HB; have HO_7 := n0_; have HB := n1_; clear n0_ n1_; (try (have HX60 := Aside0.mk (show Kd.R k52 52 wc w.heap.size (fun _ => True) (.slice (some ⟨go59, 0, none⟩) x7_2.length co23) x7_2 from (by (with_reducible repeat (first | apply Kd.R_alloc | apply Kd.R_drewN | apply Kd.R_drew)); exact HO_7.out)))); (try (obtain ⟨ce60, hcl60, hM60, hcc60, hfr60⟩ := Kd.R_elem HX60.out z52 (ji37 : Int) (of_decide_eq_true (by first | (with_reducible assumption) | assumption)) (by have h_ : (ji37 : Int) < ((x7_2.length : Int) : Int) := of_decide_eq_true (by first | (with_reducible assumption) | assumption); first | exact h_ | (have e_ := (Kd.R_reads' HO_7.out).1; omega) | simpa using h_))); (try (obtain rfl := k52_openM hM60)); (try (have HP60 := Kd.R_seg HX60.out (ji37 : Int) (of_decide_eq_true (by first | (with_reducible assumption) | assumption)) (by have h_ : (ji37 : Int) < ((x7_2.length : Int) : Int) := of_decide_eq_true (by first | (with_reducible assumption) | assumption); first | exact h_ | (have e_ := (Kd.R_reads' HO_7.out).1; omega) | simpa using h_) (seg := [.int .i64 8]) (j := 0) hcl60 hcc60 (show 1 ≤ 7 from by decide) (x' := (⟨8, (rd_T52 x7_2 ji37).f1, (rd_T52 x7_2 ji37).f2, (rd_T52 x7_2 ji37).f3, (rd_T52 x7_2 ji37).f4, (rd_T52 x7_2 ji37).f5, (rd_T52 x7_2 ji37).f6⟩ : S52)) (k52_mkM _ _ _ (⟨8, (rd_T52 x7_2 ji37).f1, (rd_T52 x7_2 ji37).f2, (rd_T52 x7_2 ji37).f3, (rd_T52 x7_2 ji37).f4, (rd_T52 x7_2 ji37).f5, (rd_T52 x7_2 ji37).f6⟩ : S52) ) (fun _ hk => hk))); (try (have hx60_0 := hcc60 0 _ rfl)); (try (try simp only [show (k52).sz = 7 from rfl, Nat.mul_one, Nat.add_zero] at hx60_0)); (try (have hf60_0 := hfr60 0)); (try (try simp only [show (k52).sz = 7 from rfl, Nat.mul_one, Nat.add_zero] at hf60_0)); (try (clear hcl60 hcc60 hfr60 hM60)))); refine store_event (t := 3) (p := 94) (v := ?vo_w61) (w1 := (wc.setCell ⟨go59, (ji37 : Int).toNat * 7, none⟩ (.int .i64 8))) ?hg ?ho ?hn ?hr ?_; (case ho => rfl); (case hg => rfl); (case hn => rfl); (case hr => first | (go_simp; done) | (go_simp; rfl)); intro w61 hw; have hg : wc.grownBy w61 (some go59) := (by rw [hw]; exact HP60.2); have hp_ : Kd.R k52 52 w61 w.heap.size (fun _ => True) (.slice (some ⟨go59, 0, none⟩) x7_2.length co23) y397 := (by rw [hw, Ny397.out]; exact HP60.1); clear HP60; have n0_ := Aside0.mk (hp_); have n1_ := Aside0.mk ((by rw [hw]; exact below_set (HB.out) GB59.out : Below w.heap.size w w61)); clear HO_7; clear HB; have HO_7 := n0_; have HB := n1_; clear n0_ n1_; clear hg hw hp_)))
                                          go_meet
                                          case rel => exact ⟨_, (y397), H', ⟨by have := HJ3.out; have := HK2.out; have := HJ21.out; have := HJ40.out; first | omega | exact Nat.le_refl _⟩, ⟨by (with_reducible repeat (first | apply Kd.R_alloc | apply Kd.R_drewN | apply Kd.R_drew)); exact HO_7.out⟩, ⟨by repeat (first | (with_reducible first | exact HB.out | apply below_alloc | apply pw_below_drewN | apply below_drew1) | exact HB.out)⟩⟩
                                        · rw [if_neg c58] at H
                                          exact absurd H (by simp)
                                      · rw [if_neg c57] at H
                                        exact absurd H (by simp)
                                    · rw [if_neg c56] at H
                                      have c56b0 : (((rd_T52 x7_2 (ji37)).f0) == 7) = false := beq_eq_false_iff_ne.mpr c56
                                      have c56b1 : (((rd_T52 x7_2 (ji37)).f0) != 7) = true := bne_iff_ne.mpr c56
                                      by_cases c62 : 0 ≤ ji37
                                      · rw [if_pos c62] at H
                                        have c62b0 : decide (0 ≤ ji37) = true := decide_eq_true c62
                                        clear c62
                                        by_cases c63 : ji37 < (x7_2.length : Int)
                                        · rw [if_pos c63] at H
                                          have c63b0 : decide (ji37 < (x7_2.length : Int)) = true := decide_eq_true c63
                                          clear c63
                                          obtain ⟨y399, hy399⟩ : ∃ y_ : List (S52), y_ = (x7_2.set (ji37 : Int).toNat (⟨wrap64 (9 - ((rd_T52 x7_2 ji37).f0)), (rd_T52 x7_2 ji37).f1, (rd_T52 x7_2 ji37).f2, (rd_T52 x7_2 ji37).f3, (rd_T52 x7_2 ji37).f4, (rd_T52 x7_2 ji37).f5, (rd_T52 x7_2 ji37).f6⟩ : S52)) := ⟨_, rfl⟩
                                          replace H : (steelyardlaw14_TreeSame.j4 kj40 l0 y399 ji37) = some r := by first | (rw [hy399]; with_reducible exact H) | (have H2_ := (Option.bind_some _ _).symm.trans H; rw [hy399]; with_reducible exact H2_) | (have H2_ := (Option.bind_some _ _).symm.trans H; with_reducible exact H2_) | with_reducible exact H | (rw [hy399]; exact H) | exact H
                                          have Ny399 := Aside0.mk hy399
                                          clear hy399
                                          have H' := Aside0.mk H
                                          clear H
                                          have p398 : 0 ≤ (ji37 : Int) := of_decide_eq_true (by first | (with_reducible assumption) | assumption)
                                          have q398 : ji37 < (x7_2.length : Int) := of_decide_eq_true (by first | (with_reducible assumption) | assumption)
                                          obtain ⟨ad398, e398, hx398_0, hx398_1, hx398_2, hx398_3, hx398_4, hx398_5, hx398_6⟩ := at_T52 (Kd.R_reads' HO_7.out).2.2 ji37 p398 q398
                                          obtain rfl : ad392 = ad398 := (by injection e398)
                                          replace p398 := eq_true p398
                                          replace q398 := eq_true q398
                                          have p64 : 0 ≤ (ji37 : Int) := of_decide_eq_true (by first | (with_reducible assumption) | assumption)
                                          have q64 : (ji37 : Int) < ((x7_2.length : Int) : Int) := of_decide_eq_true (by first | (with_reducible assumption) | assumption)
                                          obtain ⟨go64, co64, eo64, gb64, gl64, cl64, HG64⟩ := Kd.R_form HO_7.out (by omega)
                                          (first | cases eo64 | (injection eo64 with ea_ en_ ec_; (first | subst ea_ | (injection ea_ with ea_; subst ea_)); subst ec_; clear en_))
                                          have GB64 := Aside0.mk gb64
                                          have GG64 := Aside0.mk HG64
                                          clear gb64 gl64 HG64
                                          (first | simp only [add_plain] at hx398_0 | skip)
                                          (first | simp only [add_plain] at hx398_1 | skip)
                                          (first | simp only [add_plain] at hx398_2 | skip)
                                          (first | simp only [add_plain] at hx398_3 | skip)
                                          (first | simp only [add_plain] at hx398_4 | skip)
                                          (first | simp only [add_plain] at hx398_5 | skip)
                                          (first | simp only [add_plain] at hx398_6 | skip)
                                          obtain ⟨ce64, hcl64, hM64, hcc64, hfr64⟩ := Kd.R_elem HO_7.out z52 (ji37 : Int) p64 q64
                                          obtain rfl := k52_openM hM64
                                          have hx64_0 : wc.cell? ⟨go64, (ji37 : Int).toNat * 7, none⟩ = some (.int .i64 ((rd_T52 x7_2 ji37).f0)) := hcc64 0 _ rfl
                                          have hx64_1 : wc.cell? ⟨go64, (ji37 : Int).toNat * 7 + 1, none⟩ = some (.int .i64 ((rd_T52 x7_2 ji37).f1)) := hcc64 1 _ rfl
                                          have hx64_2 : wc.cell? ⟨go64, (ji37 : Int).toNat * 7 + 2, none⟩ = some (.int .i64 ((rd_T52 x7_2 ji37).f2)) := hcc64 2 _ rfl
                                          have hx64_3 : wc.cell? ⟨go64, (ji37 : Int).toNat * 7 + 3, none⟩ = some (.int .i64 ((rd_T52 x7_2 ji37).f3)) := hcc64 3 _ rfl
                                          have hx64_4 : wc.cell? ⟨go64, (ji37 : Int).toNat * 7 + 4, none⟩ = some (.string ((rd_T52 x7_2 ji37).f4)) := hcc64 4 _ rfl
                                          have hx64_5 : wc.cell? ⟨go64, (ji37 : Int).toNat * 7 + 5, none⟩ = some (.string ((rd_T52 x7_2 ji37).f5)) := hcc64 5 _ rfl
                                          have hx64_6 : wc.cell? ⟨go64, (ji37 : Int).toNat * 7 + 6, none⟩ = some (.int .i64 ((rd_T52 x7_2 ji37).f6)) := hcc64 6 _ rfl
                                          have hf64_0 : wc.frozen? ⟨go64, (ji37 : Int).toNat * 7, none⟩ = false := hfr64 0
                                          have hf64_1 : wc.frozen? ⟨go64, (ji37 : Int).toNat * 7 + 1, none⟩ = false := hfr64 1
                                          have hf64_2 : wc.frozen? ⟨go64, (ji37 : Int).toNat * 7 + 2, none⟩ = false := hfr64 2
                                          have hf64_3 : wc.frozen? ⟨go64, (ji37 : Int).toNat * 7 + 3, none⟩ = false := hfr64 3
                                          have hf64_4 : wc.frozen? ⟨go64, (ji37 : Int).toNat * 7 + 4, none⟩ = false := hfr64 4
                                          have hf64_5 : wc.frozen? ⟨go64, (ji37 : Int).toNat * 7 + 5, none⟩ = false := hfr64 5
                                          have hf64_6 : wc.frozen? ⟨go64, (ji37 : Int).toNat * 7 + 6, none⟩ = false := hfr64 6
                                          clear hcl64 hcc64 hfr64 hM64
                                          replace p64 := eq_true p64
                                          replace q64 := eq_true q64
                                          have HX65 := Aside0.mk (show Kd.R k52 52 wc w.heap.size (fun _ => True) (.slice (some ⟨go64, 0, none⟩) x7_2.length co23) x7_2 from (by (with_reducible repeat (first | apply Kd.R_alloc | apply Kd.R_drewN | apply Kd.R_drew)); exact HO_7.out))
                                          obtain ⟨ce65, hcl65, hM65, hcc65, hfr65⟩ := Kd.R_elem HX65.out z52 (ji37 : Int) (of_decide_eq_true (by first | (with_reducible assumption) | assumption)) (by have h_ : (ji37 : Int) < ((x7_2.length : Int) : Int) := of_decide_eq_true (by first | (with_reducible assumption) | assumption); first | exact h_ | (have e_ := (Kd.R_reads' HO_7.out).1; omega) | simpa using h_)
                                          obtain rfl := k52_openM hM65
                                          have HP65 := Kd.R_seg HX65.out (ji37 : Int) (of_decide_eq_true (by first | (with_reducible assumption) | assumption)) (by have h_ : (ji37 : Int) < ((x7_2.length : Int) : Int) := of_decide_eq_true (by first | (with_reducible assumption) | assumption); first | exact h_ | (have e_ := (Kd.R_reads' HO_7.out).1; omega) | simpa using h_) (seg := [.int .i64 (wrap64 (9 - ((rd_T52 x7_2 ji37).f0)))]) (j := 0) hcl65 hcc65 (show 1 ≤ 7 from by decide) (x' := (⟨wrap64 (9 - ((rd_T52 x7_2 ji37).f0)), (rd_T52 x7_2 ji37).f1, (rd_T52 x7_2 ji37).f2, (rd_T52 x7_2 ji37).f3, (rd_T52 x7_2 ji37).f4, (rd_T52 x7_2 ji37).f5, (rd_T52 x7_2 ji37).f6⟩ : S52)) (k52_mkM _ _ _ (⟨wrap64 (9 - ((rd_T52 x7_2 ji37).f0)), (rd_T52 x7_2 ji37).f1, (rd_T52 x7_2 ji37).f2, (rd_T52 x7_2 ji37).f3, (rd_T52 x7_2 ji37).f4, (rd_T52 x7_2 ji37).f5, (rd_T52 x7_2 ji37).f6⟩ : S52) ) (fun _ hk => hk)
                                          have hx65_0 := hcc65 0 _ rfl
                                          (try simp only [show (k52).sz = 7 from rfl, Nat.mul_one, Nat.add_zero] at hx65_0)
                                          have hf65_0 := hfr65 0
                                          (try simp only [show (k52).sz = 7 from rfl, Nat.mul_one, Nat.add_zero] at hf65_0)
                                          clear hcl65 hcc65 hfr65 hM65
                                          go_wp2_with (first | ((with_reducible refine gate_store (t := 3) (p := 65) rfl ?_); (try (rw [drewN_self wc]; generalize hq_ : World.drewN wc _ = wc; have n0_ := Aside0.mk (Kd.R_at hq_ HO_7.out); have n1_ := Aside0.mk (below_at hq_ HB.out); clear hq_ HO_7 HB; have HO_7 := n0_; have HB := n1_; clear n0_ n1_; (try (have HX65 := Aside0.mk (show Kd.R k52 52 wc w.heap.size (fun _ => True) (.slice (some ⟨go64, 0, none⟩) x7_2.length co23) x7_2 from (by (with_reducible repeat (first | apply Kd.R_alloc | apply Kd.R_drewN | apply Kd.R_drew)); exact HO_7.out)))); (try (obtain ⟨ce65, hcl65, hM65, hcc65, hfr65⟩ := Kd.R_elem HX65.out z52 (ji37 : Int) (of_decide_eq_true (by first | (with_reducible assumption) | assumption)) (by have h_ : (ji37 : Int) < ((x7_2.length : Int) : Int) := of_decide_eq_true (by first | (with_reducible assumption) | assumption); first | exact h_ | (have e_ := (Kd.R_reads' HO_7.out).1; omega) | simpa using h_))); (try (obtain rfl := k52_openM hM65)); (try (have HP65 := Kd.R_seg HX65.out (ji37 : Int) (of_decide_eq_true (by first | (with_reducible assumption) | assumption)) (by have h_ : (ji37 : Int) < ((x7_2.length : Int) : Int) := of_decide_eq_true (by first | (with_reducible assumption) | assumption); first | exact h_ | (have e_ := (Kd.R_reads' HO_7.out).1; omega) | simpa using h_) (seg := [.int .i64 (wrap64 (9 - ((rd_T52 x7_2 ji37).f0)))]) (j := 0) hcl65 hcc65 (show 1 ≤ 7 from by decide) (x' := (⟨wrap64 (9 - ((rd_T52 x7_2 ji37).f0)), (rd_T52 x7_2 ji37).f1, (rd_T52 x7_2 ji37).f2, (rd_T52 x7_2 ji37).f3, (rd_T52 x7_2 ji37).f4, (rd_T52 x7_2 ji37).f5, (rd_T52 x7_2 ji37).f6⟩ : S52)) (k52_mkM _ _ _ (⟨wrap64 (9 - ((rd_T52 x7_2 ji37).f0)), (rd_T52 x7_2 ji37).f1, (rd_T52 x7_2 ji37).f2, (rd_T52 x7_2 ji37).f3, (rd_T52 x7_2 ji37).f4, (rd_T52 x7_2 ji37).f5, (rd_T52 x7_2 ji37).f6⟩ : S52) ) (fun _ hk => hk))); (try (have hx65_0 := hcc65 0 _ rfl)); (try (try simp only [show (k52).sz = 7 from rfl, Nat.mul_one, Nat.add_zero] at hx65_0)); (try (have hf65_0 := hfr65 0)); (try (try simp only [show (k52).sz = 7 from rfl, Nat.mul_one, Nat.add_zero] at hf65_0)); (try (clear hcl65 hcc65 hfr65 hM65)))); refine store_event (t := 3) (p := 65) (v := ?vo_w66) (w1 := (wc.setCell ⟨go64, (ji37 : Int).toNat * 7, none⟩ (.int .i64 (wrap64 (9 - ((rd_T52 x7_2 ji37).f0)))))) ?hg ?ho ?hn ?hr ?_; (case ho => rfl); (case hg => rfl); (case hn => rfl); (case hr => first | (go_simp; done) | (go_simp; rfl)); intro w66 hw; have hg : wc.grownBy w66 (some go64) := (by rw [hw]; exact HP65.2); have hp_ : Kd.R k52 52 w66 w.heap.size (fun _ => True) (.slice (some ⟨go64, 0, none⟩) x7_2.length co23) y399 := (by rw [hw, Ny399.out]; exact HP65.1); clear HP65; have n0_ := Aside0.mk (hp_); have n1_ := Aside0.mk ((by rw [hw]; exact below_set (HB.out) GB64.out : Below w.heap.size w w66)); clear HO_7; clear HB; have HO_7 := n0_; have HB := n1_; clear n0_ n1_; clear hg hw hp_))
                                          repeat (go_quiet (first | ((with_reducible refine gate_store (t := 3) (p := 65) rfl ?_); (try (rw [drewN_self wc]; generalize hq_ : World.drewN wc _ = wc; have n0_ := Aside0.mk (Kd.R_at hq_ HO_7.out); have n1_ := Aside0.mk (below_at hq_ HB.out); clear hq_ HO_7 HB; have HO_7 := n0_; have HB := n1_; clear n0_ n1_; (try (have HX65 := Aside0.mk (show Kd.R k52 52 wc w.heap.size (fun _ => True) (.slice (some ⟨go64, 0, none⟩) x7_2.length co23) x7_2 from (by (with_reducible repeat (first | apply Kd.R_alloc | apply Kd.R_drewN | apply Kd.R_drew)); exact HO_7.out)))); (try (obtain ⟨ce65, hcl65, hM65, hcc65, hfr65⟩ := Kd.R_elem HX65.out z52 (ji37 : Int) (of_decide_eq_true (by first | (with_reducible assumption) | assumption)) (by have h_ : (ji37 : Int) < ((x7_2.length : Int) : Int) := of_decide_eq_true (by first | (with_reducible assumption) | assumption); first | exact h_ | (have e_ := (Kd.R_reads' HO_7.out).1; omega) | simpa using h_))); (try (obtain rfl := k52_openM hM65)); (try (have HP65 := Kd.R_seg HX65.out (ji37 : Int) (of_decide_eq_true (by first | (with_reducible assumption) | assumption)) (by have h_ : (ji37 : Int) < ((x7_2.length : Int) : Int) := of_decide_eq_true (by first | (with_reducible assumption) | assumption); first | exact h_ | (have e_ := (Kd.R_reads' HO_7.out).1; omega) | simpa using h_) (seg := [.int .i64 (wrap64 (9 - ((rd_T52 x7_2 ji37).f0)))]) (j := 0) hcl65 hcc65 (show 1 ≤ 7 from by decide) (x' := (⟨wrap64 (9 - ((rd_T52 x7_2 ji37).f0)), (rd_T52 x7_2 ji37).f1, (rd_T52 x7_2 ji37).f2, (rd_T52 x7_2 ji37).f3, (rd_T52 x7_2 ji37).f4, (rd_T52 x7_2 ji37).f5, (rd_T52 x7_2 ji37).f6⟩ : S52)) (k52_mkM _ _ _ (⟨wrap64 (9 - ((rd_T52 x7_2 ji37).f0)), (rd_T52 x7_2 ji37).f1, (rd_T52 x7_2 ji37).f2, (rd_T52 x7_2 ji37).f3, (rd_T52 x7_2 ji37).f4, (rd_T52 x7_2 ji37).f5, (rd_T52 x7_2 ji37).f6⟩ : S52) ) (fun _ hk => hk))); (try (have hx65_0 := hcc65 0 _ rfl)); (try (try simp only [show (k52).sz = 7 from rfl, Nat.mul_one, Nat.add_zero] at hx65_0)); (try (have hf65_0 := hfr65 0)); (try (try simp only [show (k52).sz = 7 from rfl, Nat.mul_one, Nat.add_zero] at hf65_0)); (try (clear hcl65 hcc65 hfr65 hM65)))); refine store_event (t := 3) (p := 65) (v := ?vo_w66) (w1 := (wc.setCell ⟨go64, (ji37 : Int).toNat * 7, none⟩ (.int .i64 (wrap64 (9 - ((rd_T52 x7_2 ji37).f0)))))) ?hg ?ho ?hn ?hr ?_; (case ho => rfl); (case hg => rfl); (case hn => rfl); (case hr => first | (go_simp; done) | (go_simp; rfl)); intro w66 hw; have hg : wc.grownBy w66 (some go64) := (by rw [hw]; exact HP65.2); have hp_ : Kd.R k52 52 w66 w.heap.size (fun _ => True) (.slice (some ⟨go64, 0, none⟩) x7_2.length co23) y399 := (by rw [hw, Ny399.out]; exact HP65.1); clear HP65; have n0_ := Aside0.mk (hp_); have n1_ := Aside0.mk ((by rw [hw]; exact below_set (HB.out) GB64.out : Below w.heap.size w w66)); clear HO_7; clear HB; have HO_7 := n0_; have HB := n1_; clear n0_ n1_; clear hg hw hp_)); try go_wp2_with (first | ((with_reducible refine gate_store (t := 3) (p := 65) rfl ?_); (try (rw [drewN_self wc]; generalize hq_ : World.drewN wc _ = wc; have n0_ := Aside0.mk (Kd.R_at hq_ HO_7.out); have n1_ := Aside0.mk (below_at hq_ HB.out); clear hq_ HO_7 HB; have HO_7 := n0_; have HB := n1_; clear n0_ n1_; (try (have HX65 := Aside0.mk (show Kd.R k52 52 wc w.heap.size (fun _ => True) (.slice (some ⟨go64, 0, none⟩) x7_2.length co23) x7_2 from (by (with_reducible repeat (first | apply Kd.R_alloc | apply Kd.R_drewN | apply Kd.R_drew)); exact HO_7.out)))); (try (obtain ⟨ce65, hcl65, hM65, hcc65, hfr65⟩ := Kd.R_elem HX65.out z52 (ji37 : Int) (of_decide_eq_true (by first | (with_reducible assumption) | assumption)) (by have h_ : (ji37 : Int) < ((x7_2.length : Int) : Int) := of_decide_eq_true (by first | (with_reducible assumption) | assumption); first | exact h_ | (have e_ := (Kd.R_reads' HO_7.out).1; omega) | simpa using h_))); (try (obtain rfl := k52_openM hM65)); (try (have HP65 := Kd.R_seg HX65.out (ji37 : Int) (of_decide_eq_true (by first | (with_reducible assumption) | assumption)) (by have h_ : (ji37 : Int) < ((x7_2.length : Int) : Int) := of_decide_eq_true (by first | (with_reducible assumption) | assumption); first | exact h_ | (have e_ := (Kd.R_reads' HO_7.out).1; omega) | simpa using h_) (seg := [.int .i64 (wrap64 (9 - ((rd_T52 x7_2 ji37).f0)))]) (j := 0) hcl65 hcc65 (show 1 ≤ 7 from by decide) (x' := (⟨wrap64 (9 - ((rd_T52 x7_2 ji37).f0)), (rd_T52 x7_2 ji37).f1, (rd_T52 x7_2 ji37).f2, (rd_T52 x7_2 ji37).f3, (rd_T52 x7_2 ji37).f4, (rd_T52 x7_2 ji37).f5, (rd_T52 x7_2 ji37).f6⟩ : S52)) (k52_mkM _ _ _ (⟨wrap64 (9 - ((rd_T52 x7_2 ji37).f0)), (rd_T52 x7_2 ji37).f1, (rd_T52 x7_2 ji37).f2, (rd_T52 x7_2 ji37).f3, (rd_T52 x7_2 ji37).f4, (rd_T52 x7_2 ji37).f5, (rd_T52 x7_2 ji37).f6⟩ : S52) ) (fun _ hk => hk))); (try (have hx65_0 := hcc65 0 _ rfl)); (try (try simp only [show (k52).sz = 7 from rfl, Nat.mul_one, Nat.add_zero] at hx65_0)); (try (have hf65_0 := hfr65 0)); (try (try simp only [show (k52).sz = 7 from rfl, Nat.mul_one, Nat.add_zero] at hf65_0)); (try (clear hcl65 hcc65 hfr65 hM65)))); refine store_event (t := 3) (p := 65) (v := ?vo_w66) (w1 := (wc.setCell ⟨go64, (ji37 : Int).toNat * 7, none⟩ (.int .i64 (wrap64 (9 - ((rd_T52 x7_2 ji37).f0)))))) ?hg ?ho ?hn ?hr ?_; (case ho => rfl); (case hg => rfl); (case hn => rfl); (case hr => first | (go_simp; done) | (go_simp; rfl)); intro w66 hw; have hg : wc.grownBy w66 (some go64) := (by rw [hw]; exact HP65.2); have hp_ : Kd.R k52 52 w66 w.heap.size (fun _ => True) (.slice (some ⟨go64, 0, none⟩) x7_2.length co23) y399 := (by rw [hw, Ny399.out]; exact HP65.1); clear HP65; have n0_ := Aside0.mk (hp_); have n1_ := Aside0.mk ((by rw [hw]; exact below_set (HB.out) GB64.out : Below w.heap.size w w66)); clear HO_7; clear HB; have HO_7 := n0_; have HB := n1_; clear n0_ n1_; clear hg hw hp_)))
                                          go_meet
                                          case rel => exact ⟨_, (y399), H', ⟨by have := HJ3.out; have := HK2.out; have := HJ21.out; have := HJ40.out; first | omega | exact Nat.le_refl _⟩, ⟨by (with_reducible repeat (first | apply Kd.R_alloc | apply Kd.R_drewN | apply Kd.R_drew)); exact HO_7.out⟩, ⟨by repeat (first | (with_reducible first | exact HB.out | apply below_alloc | apply pw_below_drewN | apply below_drew1) | exact HB.out)⟩⟩
                                        · rw [if_neg c63] at H
                                          exact absurd H (by simp)
                                      · rw [if_neg c62] at H
                                        exact absurd H (by simp)
                          case rest =>
                            clear HC40
                            try clear c1
                            try clear p1
                            try clear q1
                            try clear hx1
                            try clear c2
                            try clear p2
                            try clear hx2
                            try clear c3
                            try clear p3
                            try clear q3
                            try clear hx3
                            try clear c4
                            try clear p4
                            try clear q4
                            try clear hx4
                            try clear hf4
                            try clear c5
                            try clear p5
                            try clear q5
                            try clear hx5
                            try clear hf5
                            try clear c6
                            try clear p6
                            try clear q6
                            try clear hx6
                            try clear hf6
                            try clear c9
                            try clear c11
                            try clear c16
                            try clear c16b0
                            try clear c17
                            try clear c17b0
                            try clear c18
                            try clear p18
                            try clear q18
                            try clear hx18
                            try clear hf18
                            try clear c20
                            try clear hx20
                            try clear hf20
                            try clear c25
                            try clear c27
                            try clear c35
                            try clear c36
                            try clear c36b0
                            try clear c36b1
                            try clear c36b2
                            try clear c38
                            try clear c38b0
                            try clear c39
                            try clear c39b0
                            try clear p39
                            try clear q39
                            try clear hx39
                            try clear c42
                            try clear c42b0
                            try clear c42b1
                            try clear c43
                            try clear c44
                            try clear c44b0
                            try clear c45
                            try clear c45b0
                            try clear c46
                            try clear c46b0
                            try clear c46b1
                            try clear c46b2
                            try clear c47
                            try clear p47
                            try clear q47
                            try clear hx47
                            try clear hf47
                            try clear c48
                            try clear hx48
                            try clear hf48
                            try clear c50
                            try clear c50b0
                            try clear c50b1
                            try clear c51
                            try clear c51b0
                            try clear c52
                            try clear c52b0
                            try clear c53
                            try clear p53
                            try clear q53
                            try clear hx53
                            try clear hf53
                            try clear c54
                            try clear hx54
                            try clear hf54
                            try clear c56
                            try clear c56b0
                            try clear c56b1
                            try clear c57
                            try clear c57b0
                            try clear c58
                            try clear c58b0
                            try clear c59
                            try clear p59
                            try clear q59
                            try clear hx59
                            try clear hf59
                            try clear c60
                            try clear hx60
                            try clear hf60
                            try clear c62
                            try clear c62b0
                            try clear c63
                            try clear c63b0
                            try clear c64
                            try clear p64
                            try clear q64
                            try clear hx64
                            try clear hf64
                            try clear c65
                            try clear hx65
                            try clear hf65
                            try clear hx18_0
                            try clear hx18_1
                            try clear hx18_2
                            try clear hx18_3
                            try clear hx18_4
                            try clear hx18_5
                            try clear hx18_6
                            try clear hx20_6
                            try clear hx392_0
                            try clear hx392_1
                            try clear hx392_2
                            try clear hx392_3
                            try clear hx392_4
                            try clear hx392_5
                            try clear hx392_6
                            try clear hx393_0
                            try clear hx393_1
                            try clear hx393_2
                            try clear hx393_3
                            try clear hx393_4
                            try clear hx393_5
                            try clear hx393_6
                            try clear hx395_0
                            try clear hx395_1
                            try clear hx395_2
                            try clear hx395_3
                            try clear hx395_4
                            try clear hx395_5
                            try clear hx395_6
                            try clear hx398_0
                            try clear hx398_1
                            try clear hx398_2
                            try clear hx398_3
                            try clear hx398_4
                            try clear hx398_5
                            try clear hx398_6
                            try clear hx47_0
                            try clear hx47_1
                            try clear hx47_2
                            try clear hx47_3
                            try clear hx47_4
                            try clear hx47_5
                            try clear hx47_6
                            try clear hx48_4
                            try clear hx53_0
                            try clear hx53_1
                            try clear hx53_2
                            try clear hx53_3
                            try clear hx53_4
                            try clear hx53_5
                            try clear hx53_6
                            try clear hx54_3
                            try clear hx59_0
                            try clear hx59_1
                            try clear hx59_2
                            try clear hx59_3
                            try clear hx59_4
                            try clear hx59_5
                            try clear hx59_6
                            try clear hx60_0
                            try clear hx64_0
                            try clear hx64_1
                            try clear hx64_2
                            try clear hx64_3
                            try clear hx64_4
                            try clear hx64_5
                            try clear hx64_6
                            try clear hx65_0
                            try clear p1
                            try clear p18
                            try clear p2
                            try clear p3
                            try clear p39
                            try clear p392
                            try clear p393
                            try clear p395
                            try clear p398
                            try clear p47
                            try clear p53
                            try clear p59
                            try clear p6
                            try clear p64
                            try clear q1
                            try clear q18
                            try clear q3
                            try clear q39
                            try clear q392
                            try clear q393
                            try clear q395
                            try clear q398
                            try clear q47
                            try clear q53
                            try clear q59
                            try clear q64
                            obtain ⟨kq, x7_39, HA, HJ39, HO_7, HB⟩ := hcut
                            have hl7_39 := (Kd.R_reads' HO_7.out).1
                            rw [hl7_39] at HO_7
                            (try simp only [hl7_39])
                            cases kq with
                            | zero => exact absurd HA.out (by simp [steelyardlaw14_TreeSame.j4])
                            | succ kj39 =>
                              have H := HA.out
                              clear HA
                              simp only [steelyardlaw14_TreeSame.j4] at H
                              have HC67 := Aside0.mk H
                              clear H
                              go_upto_region 20 with (fail)
                              repeat (go_quiet (fail); go_upto_region 20 with (fail))
                              go_cut [131] (fun v131 wc => ∃ (kq : Nat) (x131_66 : Bool), v131 = .bool x131_66 ∧ Aside0 (steelyardlaw14_TreeSame.j5 kq l0 x7_39 x131_66 = some r) ∧ Aside0 (kq ≤ kj39) ∧ Aside0 (Kd.R k52 52 wc w.heap.size (fun _ => True) (.slice (some ad392) x7_39.length co23) x7_39) ∧ Aside0 (Below w.heap.size w wc))
                              case first =>
                                have H := HC67.out
                                clear HC67
                                by_cases c68 : 0 ≤ ji37
                                · rw [if_pos c68] at H
                                  have c68b0 : decide (0 ≤ ji37) = true := decide_eq_true c68
                                  clear c68
                                  (first | rw [c68b0] | (simp only [i64_w, i32_w]; rw [c68b0]) | skip)
                                  by_cases c69 : ji37 < (x7_39.length : Int)
                                  · rw [if_pos c69] at H
                                    have c69b0 : decide (ji37 < (x7_39.length : Int)) = true := decide_eq_true c69
                                    clear c69
                                    by_cases c70 : ji37 < (l0.length : Int)
                                    · rw [if_pos c70] at H
                                      have c70b0 : decide (ji37 < (l0.length : Int)) = true := decide_eq_true c70
                                      clear c70
                                      by_cases c71 : ((rd_T52 x7_39 ji37).f0) = ((rd_T52 l0 ji37).f0)
                                      · rw [if_pos c71] at H
                                        have c71b0 : (((rd_T52 x7_39 ji37).f0) == ((rd_T52 l0 ji37).f0)) = true := beq_iff_eq.mpr c71
                                        have c71b1 : (((rd_T52 x7_39 ji37).f0) != ((rd_T52 l0 ji37).f0)) = false := bne_eq_false_iff_eq.mpr c71
                                        clear c71
                                        by_cases c72 : ((rd_T52 x7_39 ji37).f3) = ((rd_T52 l0 ji37).f3)
                                        · rw [if_pos c72] at H
                                          have c72b0 : (((rd_T52 x7_39 ji37).f3) == ((rd_T52 l0 ji37).f3)) = true := beq_iff_eq.mpr c72
                                          have c72b1 : (((rd_T52 x7_39 ji37).f3) != ((rd_T52 l0 ji37).f3)) = false := bne_eq_false_iff_eq.mpr c72
                                          clear c72
                                          have H' := Aside0.mk H
                                          clear H
                                          have p400 : 0 ≤ (ji37 : Int) := of_decide_eq_true (by first | (with_reducible assumption) | assumption)
                                          have q400 : ji37 < (x7_39.length : Int) := of_decide_eq_true (by first | (with_reducible assumption) | assumption)
                                          obtain ⟨ad400, e400, hx400_0, hx400_1, hx400_2, hx400_3, hx400_4, hx400_5, hx400_6⟩ := at_T52 (Kd.R_reads' HO_7.out).2.2 ji37 p400 q400
                                          obtain rfl : ad392 = ad400 := (by injection e400)
                                          replace p400 := eq_true p400
                                          replace q400 := eq_true q400
                                          have p401 : 0 ≤ (ji37 : Int) := of_decide_eq_true (by first | (with_reducible assumption) | assumption)
                                          have q401 : ji37 < (l0.length : Int) := of_decide_eq_true (by first | (with_reducible assumption) | assumption)
                                          obtain ⟨ad401, e401, hx401_0, hx401_1, hx401_2, hx401_3, hx401_4, hx401_5, hx401_6⟩ := at_T52 HR0.out ji37 p401 q401
                                          cases e401
                                          replace hx401_0 := (HB.out.cell (World.block_lt_of_cell? w _ hx401_0)).trans hx401_0
                                          replace hx401_1 := (HB.out.cell (World.block_lt_of_cell? w _ hx401_1)).trans hx401_1
                                          replace hx401_2 := (HB.out.cell (World.block_lt_of_cell? w _ hx401_2)).trans hx401_2
                                          replace hx401_3 := (HB.out.cell (World.block_lt_of_cell? w _ hx401_3)).trans hx401_3
                                          replace hx401_4 := (HB.out.cell (World.block_lt_of_cell? w _ hx401_4)).trans hx401_4
                                          replace hx401_5 := (HB.out.cell (World.block_lt_of_cell? w _ hx401_5)).trans hx401_5
                                          replace hx401_6 := (HB.out.cell (World.block_lt_of_cell? w _ hx401_6)).trans hx401_6
                                          replace p401 := eq_true p401
                                          replace q401 := eq_true q401
                                          have p402 : 0 ≤ (ji37 : Int) := of_decide_eq_true (by first | (with_reducible assumption) | assumption)
                                          have q402 : ji37 < (x7_39.length : Int) := of_decide_eq_true (by first | (with_reducible assumption) | assumption)
                                          obtain ⟨ad402, e402, hx402_0, hx402_1, hx402_2, hx402_3, hx402_4, hx402_5, hx402_6⟩ := at_T52 (Kd.R_reads' HO_7.out).2.2 ji37 p402 q402
                                          obtain rfl : ad392 = ad402 := (by injection e402)
                                          replace p402 := eq_true p402
                                          replace q402 := eq_true q402
                                          have p403 : 0 ≤ (ji37 : Int) := of_decide_eq_true (by first | (with_reducible assumption) | assumption)
                                          have q403 : ji37 < (l0.length : Int) := of_decide_eq_true (by first | (with_reducible assumption) | assumption)
                                          obtain ⟨ad403, e403, hx403_0, hx403_1, hx403_2, hx403_3, hx403_4, hx403_5, hx403_6⟩ := at_T52 HR0.out ji37 p403 q403
                                          obtain rfl : ad401 = ad403 := (by injection e403)
                                          replace hx403_0 := (HB.out.cell (World.block_lt_of_cell? w _ hx403_0)).trans hx403_0
                                          replace hx403_1 := (HB.out.cell (World.block_lt_of_cell? w _ hx403_1)).trans hx403_1
                                          replace hx403_2 := (HB.out.cell (World.block_lt_of_cell? w _ hx403_2)).trans hx403_2
                                          replace hx403_3 := (HB.out.cell (World.block_lt_of_cell? w _ hx403_3)).trans hx403_3
                                          replace hx403_4 := (HB.out.cell (World.block_lt_of_cell? w _ hx403_4)).trans hx403_4
                                          replace hx403_5 := (HB.out.cell (World.block_lt_of_cell? w _ hx403_5)).trans hx403_5
                                          replace hx403_6 := (HB.out.cell (World.block_lt_of_cell? w _ hx403_6)).trans hx403_6
                                          replace p403 := eq_true p403
                                          replace q403 := eq_true q403
                                          have p404 : 0 ≤ (ji37 : Int) := of_decide_eq_true (by first | (with_reducible assumption) | assumption)
                                          have q404 : ji37 < (x7_39.length : Int) := of_decide_eq_true (by first | (with_reducible assumption) | assumption)
                                          obtain ⟨ad404, e404, hx404_0, hx404_1, hx404_2, hx404_3, hx404_4, hx404_5, hx404_6⟩ := at_T52 (Kd.R_reads' HO_7.out).2.2 ji37 p404 q404
                                          obtain rfl : ad392 = ad404 := (by injection e404)
                                          replace p404 := eq_true p404
                                          replace q404 := eq_true q404
                                          have p405 : 0 ≤ (ji37 : Int) := of_decide_eq_true (by first | (with_reducible assumption) | assumption)
                                          have q405 : ji37 < (l0.length : Int) := of_decide_eq_true (by first | (with_reducible assumption) | assumption)
                                          obtain ⟨ad405, e405, hx405_0, hx405_1, hx405_2, hx405_3, hx405_4, hx405_5, hx405_6⟩ := at_T52 HR0.out ji37 p405 q405
                                          obtain rfl : ad401 = ad405 := (by injection e405)
                                          replace hx405_0 := (HB.out.cell (World.block_lt_of_cell? w _ hx405_0)).trans hx405_0
                                          replace hx405_1 := (HB.out.cell (World.block_lt_of_cell? w _ hx405_1)).trans hx405_1
                                          replace hx405_2 := (HB.out.cell (World.block_lt_of_cell? w _ hx405_2)).trans hx405_2
                                          replace hx405_3 := (HB.out.cell (World.block_lt_of_cell? w _ hx405_3)).trans hx405_3
                                          replace hx405_4 := (HB.out.cell (World.block_lt_of_cell? w _ hx405_4)).trans hx405_4
                                          replace hx405_5 := (HB.out.cell (World.block_lt_of_cell? w _ hx405_5)).trans hx405_5
                                          replace hx405_6 := (HB.out.cell (World.block_lt_of_cell? w _ hx405_6)).trans hx405_6
                                          replace p405 := eq_true p405
                                          replace q405 := eq_true q405
                                          go_wp2
                                          repeat (go_quiet (fail); try go_wp2)
                                          go_meet
                                          case rel => exact ⟨_, ((((rd_T52 x7_39 ji37).f4).toList == ((rd_T52 l0 ji37).f4).toList)), (by first | rfl | (simp; done) | (simp only [← hji37] <;> (first | rfl | (simp; done))) | (simp only [hji37]; first | rfl | (simp [*]; done) | (simp_all; done)) | (simp [*]; done)), (by first | exact H' | (rw [hji37]; exact H') | (simp only [hji37]; exact H')), ⟨by have := HJ3.out; have := HK2.out; have := HJ21.out; have := HJ39.out; first | omega | exact Nat.le_refl _⟩, ⟨by (try simp only [hl7_39]); (with_reducible repeat (first | apply Kd.R_alloc | apply Kd.R_drewN | apply Kd.R_drew)); exact HO_7.out⟩, ⟨by repeat (first | (with_reducible first | exact HB.out | apply below_alloc | apply pw_below_drewN | apply below_drew1) | exact HB.out)⟩⟩
                                        · rw [if_neg c72] at H
                                          have c72b0 : (((rd_T52 x7_39 ji37).f3) == ((rd_T52 l0 ji37).f3)) = false := beq_eq_false_iff_ne.mpr c72
                                          have c72b1 : (((rd_T52 x7_39 ji37).f3) != ((rd_T52 l0 ji37).f3)) = true := bne_iff_ne.mpr c72
                                          have H' := Aside0.mk H
                                          clear H
                                          have p400 : 0 ≤ (ji37 : Int) := of_decide_eq_true (by first | (with_reducible assumption) | assumption)
                                          have q400 : ji37 < (x7_39.length : Int) := of_decide_eq_true (by first | (with_reducible assumption) | assumption)
                                          obtain ⟨ad400, e400, hx400_0, hx400_1, hx400_2, hx400_3, hx400_4, hx400_5, hx400_6⟩ := at_T52 (Kd.R_reads' HO_7.out).2.2 ji37 p400 q400
                                          obtain rfl : ad392 = ad400 := (by injection e400)
                                          replace p400 := eq_true p400
                                          replace q400 := eq_true q400
                                          have p401 : 0 ≤ (ji37 : Int) := of_decide_eq_true (by first | (with_reducible assumption) | assumption)
                                          have q401 : ji37 < (l0.length : Int) := of_decide_eq_true (by first | (with_reducible assumption) | assumption)
                                          obtain ⟨ad401, e401, hx401_0, hx401_1, hx401_2, hx401_3, hx401_4, hx401_5, hx401_6⟩ := at_T52 HR0.out ji37 p401 q401
                                          cases e401
                                          replace hx401_0 := (HB.out.cell (World.block_lt_of_cell? w _ hx401_0)).trans hx401_0
                                          replace hx401_1 := (HB.out.cell (World.block_lt_of_cell? w _ hx401_1)).trans hx401_1
                                          replace hx401_2 := (HB.out.cell (World.block_lt_of_cell? w _ hx401_2)).trans hx401_2
                                          replace hx401_3 := (HB.out.cell (World.block_lt_of_cell? w _ hx401_3)).trans hx401_3
                                          replace hx401_4 := (HB.out.cell (World.block_lt_of_cell? w _ hx401_4)).trans hx401_4
                                          replace hx401_5 := (HB.out.cell (World.block_lt_of_cell? w _ hx401_5)).trans hx401_5
                                          replace hx401_6 := (HB.out.cell (World.block_lt_of_cell? w _ hx401_6)).trans hx401_6
                                          replace p401 := eq_true p401
                                          replace q401 := eq_true q401
                                          have p402 : 0 ≤ (ji37 : Int) := of_decide_eq_true (by first | (with_reducible assumption) | assumption)
                                          have q402 : ji37 < (x7_39.length : Int) := of_decide_eq_true (by first | (with_reducible assumption) | assumption)
                                          obtain ⟨ad402, e402, hx402_0, hx402_1, hx402_2, hx402_3, hx402_4, hx402_5, hx402_6⟩ := at_T52 (Kd.R_reads' HO_7.out).2.2 ji37 p402 q402
                                          obtain rfl : ad392 = ad402 := (by injection e402)
                                          replace p402 := eq_true p402
                                          replace q402 := eq_true q402
                                          have p403 : 0 ≤ (ji37 : Int) := of_decide_eq_true (by first | (with_reducible assumption) | assumption)
                                          have q403 : ji37 < (l0.length : Int) := of_decide_eq_true (by first | (with_reducible assumption) | assumption)
                                          obtain ⟨ad403, e403, hx403_0, hx403_1, hx403_2, hx403_3, hx403_4, hx403_5, hx403_6⟩ := at_T52 HR0.out ji37 p403 q403
                                          obtain rfl : ad401 = ad403 := (by injection e403)
                                          replace hx403_0 := (HB.out.cell (World.block_lt_of_cell? w _ hx403_0)).trans hx403_0
                                          replace hx403_1 := (HB.out.cell (World.block_lt_of_cell? w _ hx403_1)).trans hx403_1
                                          replace hx403_2 := (HB.out.cell (World.block_lt_of_cell? w _ hx403_2)).trans hx403_2
                                          replace hx403_3 := (HB.out.cell (World.block_lt_of_cell? w _ hx403_3)).trans hx403_3
                                          replace hx403_4 := (HB.out.cell (World.block_lt_of_cell? w _ hx403_4)).trans hx403_4
                                          replace hx403_5 := (HB.out.cell (World.block_lt_of_cell? w _ hx403_5)).trans hx403_5
                                          replace hx403_6 := (HB.out.cell (World.block_lt_of_cell? w _ hx403_6)).trans hx403_6
                                          replace p403 := eq_true p403
                                          replace q403 := eq_true q403
                                          go_wp2
                                          repeat (go_quiet (fail); try go_wp2)
                                          go_meet
                                          case rel => exact ⟨_, (false), (by first | rfl | (simp; done) | (simp [*]; done)), H', ⟨by have := HJ3.out; have := HK2.out; have := HJ21.out; have := HJ39.out; first | omega | exact Nat.le_refl _⟩, ⟨by (try simp only [hl7_39]); (with_reducible repeat (first | apply Kd.R_alloc | apply Kd.R_drewN | apply Kd.R_drew)); exact HO_7.out⟩, ⟨by repeat (first | (with_reducible first | exact HB.out | apply below_alloc | apply pw_below_drewN | apply below_drew1) | exact HB.out)⟩⟩
                                      · rw [if_neg c71] at H
                                        have c71b0 : (((rd_T52 x7_39 ji37).f0) == ((rd_T52 l0 ji37).f0)) = false := beq_eq_false_iff_ne.mpr c71
                                        have c71b1 : (((rd_T52 x7_39 ji37).f0) != ((rd_T52 l0 ji37).f0)) = true := bne_iff_ne.mpr c71
                                        have H' := Aside0.mk H
                                        clear H
                                        have p400 : 0 ≤ (ji37 : Int) := of_decide_eq_true (by first | (with_reducible assumption) | assumption)
                                        have q400 : ji37 < (x7_39.length : Int) := of_decide_eq_true (by first | (with_reducible assumption) | assumption)
                                        obtain ⟨ad400, e400, hx400_0, hx400_1, hx400_2, hx400_3, hx400_4, hx400_5, hx400_6⟩ := at_T52 (Kd.R_reads' HO_7.out).2.2 ji37 p400 q400
                                        obtain rfl : ad392 = ad400 := (by injection e400)
                                        replace p400 := eq_true p400
                                        replace q400 := eq_true q400
                                        have p401 : 0 ≤ (ji37 : Int) := of_decide_eq_true (by first | (with_reducible assumption) | assumption)
                                        have q401 : ji37 < (l0.length : Int) := of_decide_eq_true (by first | (with_reducible assumption) | assumption)
                                        obtain ⟨ad401, e401, hx401_0, hx401_1, hx401_2, hx401_3, hx401_4, hx401_5, hx401_6⟩ := at_T52 HR0.out ji37 p401 q401
                                        cases e401
                                        replace hx401_0 := (HB.out.cell (World.block_lt_of_cell? w _ hx401_0)).trans hx401_0
                                        replace hx401_1 := (HB.out.cell (World.block_lt_of_cell? w _ hx401_1)).trans hx401_1
                                        replace hx401_2 := (HB.out.cell (World.block_lt_of_cell? w _ hx401_2)).trans hx401_2
                                        replace hx401_3 := (HB.out.cell (World.block_lt_of_cell? w _ hx401_3)).trans hx401_3
                                        replace hx401_4 := (HB.out.cell (World.block_lt_of_cell? w _ hx401_4)).trans hx401_4
                                        replace hx401_5 := (HB.out.cell (World.block_lt_of_cell? w _ hx401_5)).trans hx401_5
                                        replace hx401_6 := (HB.out.cell (World.block_lt_of_cell? w _ hx401_6)).trans hx401_6
                                        replace p401 := eq_true p401
                                        replace q401 := eq_true q401
                                        go_wp2
                                        repeat (go_quiet (fail); try go_wp2)
                                        go_meet
                                        case rel => exact ⟨_, (false), (by first | rfl | (simp; done) | (simp [*]; done)), H', ⟨by have := HJ3.out; have := HK2.out; have := HJ21.out; have := HJ39.out; first | omega | exact Nat.le_refl _⟩, ⟨by (try simp only [hl7_39]); (with_reducible repeat (first | apply Kd.R_alloc | apply Kd.R_drewN | apply Kd.R_drew)); exact HO_7.out⟩, ⟨by repeat (first | (with_reducible first | exact HB.out | apply below_alloc | apply pw_below_drewN | apply below_drew1) | exact HB.out)⟩⟩
                                    · rw [if_neg c70] at H
                                      exact absurd H (by simp)
                                  · rw [if_neg c69] at H
                                    exact absurd H (by simp)
                                · rw [if_neg c68] at H
                                  exact absurd H (by simp)
                              case rest =>
                                clear HC67
                                try clear c1
                                try clear p1
                                try clear q1
                                try clear hx1
                                try clear c2
                                try clear p2
                                try clear hx2
                                try clear c3
                                try clear p3
                                try clear q3
                                try clear hx3
                                try clear c4
                                try clear p4
                                try clear q4
                                try clear hx4
                                try clear hf4
                                try clear c5
                                try clear p5
                                try clear q5
                                try clear hx5
                                try clear hf5
                                try clear c6
                                try clear p6
                                try clear q6
                                try clear hx6
                                try clear hf6
                                try clear c7
                                try clear c9
                                try clear c11
                                try clear c16
                                try clear c16b0
                                try clear c17
                                try clear c17b0
                                try clear c18
                                try clear p18
                                try clear q18
                                try clear hx18
                                try clear hf18
                                try clear c20
                                try clear hx20
                                try clear hf20
                                try clear c25
                                try clear c27
                                try clear c35
                                try clear c36
                                try clear c36b0
                                try clear c36b1
                                try clear c36b2
                                try clear c38
                                try clear c38b0
                                try clear c39
                                try clear c39b0
                                try clear p39
                                try clear q39
                                try clear hx39
                                try clear p40
                                try clear q40
                                try clear hx40
                                try clear c42
                                try clear c42b0
                                try clear c42b1
                                try clear c43
                                try clear c44
                                try clear c44b0
                                try clear c45
                                try clear c45b0
                                try clear c46
                                try clear c46b0
                                try clear c46b1
                                try clear c46b2
                                try clear c47
                                try clear p47
                                try clear q47
                                try clear hx47
                                try clear hf47
                                try clear c48
                                try clear hx48
                                try clear hf48
                                try clear c50
                                try clear c50b0
                                try clear c50b1
                                try clear c51
                                try clear c51b0
                                try clear c52
                                try clear c52b0
                                try clear c53
                                try clear p53
                                try clear q53
                                try clear hx53
                                try clear hf53
                                try clear c54
                                try clear hx54
                                try clear hf54
                                try clear c56
                                try clear c56b0
                                try clear c56b1
                                try clear c57
                                try clear c57b0
                                try clear c58
                                try clear c58b0
                                try clear c59
                                try clear p59
                                try clear q59
                                try clear hx59
                                try clear hf59
                                try clear c60
                                try clear hx60
                                try clear hf60
                                try clear c62
                                try clear c62b0
                                try clear c63
                                try clear c63b0
                                try clear c64
                                try clear p64
                                try clear q64
                                try clear hx64
                                try clear hf64
                                try clear c65
                                try clear hx65
                                try clear hf65
                                try clear c68
                                try clear c68b0
                                try clear c69
                                try clear c69b0
                                try clear c70
                                try clear c70b0
                                try clear c71
                                try clear c71b0
                                try clear c71b1
                                try clear c72
                                try clear c72b0
                                try clear c72b1
                                try clear hx18_0
                                try clear hx18_1
                                try clear hx18_2
                                try clear hx18_3
                                try clear hx18_4
                                try clear hx18_5
                                try clear hx18_6
                                try clear hx20_6
                                try clear hx392_0
                                try clear hx392_1
                                try clear hx392_2
                                try clear hx392_3
                                try clear hx392_4
                                try clear hx392_5
                                try clear hx392_6
                                try clear hx393_0
                                try clear hx393_1
                                try clear hx393_2
                                try clear hx393_3
                                try clear hx393_4
                                try clear hx393_5
                                try clear hx393_6
                                try clear hx395_0
                                try clear hx395_1
                                try clear hx395_2
                                try clear hx395_3
                                try clear hx395_4
                                try clear hx395_5
                                try clear hx395_6
                                try clear hx398_0
                                try clear hx398_1
                                try clear hx398_2
                                try clear hx398_3
                                try clear hx398_4
                                try clear hx398_5
                                try clear hx398_6
                                try clear hx400_0
                                try clear hx400_1
                                try clear hx400_2
                                try clear hx400_3
                                try clear hx400_4
                                try clear hx400_5
                                try clear hx400_6
                                try clear hx401_0
                                try clear hx401_1
                                try clear hx401_2
                                try clear hx401_3
                                try clear hx401_4
                                try clear hx401_5
                                try clear hx401_6
                                try clear hx402_0
                                try clear hx402_1
                                try clear hx402_2
                                try clear hx402_3
                                try clear hx402_4
                                try clear hx402_5
                                try clear hx402_6
                                try clear hx403_0
                                try clear hx403_1
                                try clear hx403_2
                                try clear hx403_3
                                try clear hx403_4
                                try clear hx403_5
                                try clear hx403_6
                                try clear hx404_0
                                try clear hx404_1
                                try clear hx404_2
                                try clear hx404_3
                                try clear hx404_4
                                try clear hx404_5
                                try clear hx404_6
                                try clear hx405_0
                                try clear hx405_1
                                try clear hx405_2
                                try clear hx405_3
                                try clear hx405_4
                                try clear hx405_5
                                try clear hx405_6
                                try clear hx47_0
                                try clear hx47_1
                                try clear hx47_2
                                try clear hx47_3
                                try clear hx47_4
                                try clear hx47_5
                                try clear hx47_6
                                try clear hx48_4
                                try clear hx53_0
                                try clear hx53_1
                                try clear hx53_2
                                try clear hx53_3
                                try clear hx53_4
                                try clear hx53_5
                                try clear hx53_6
                                try clear hx54_3
                                try clear hx59_0
                                try clear hx59_1
                                try clear hx59_2
                                try clear hx59_3
                                try clear hx59_4
                                try clear hx59_5
                                try clear hx59_6
                                try clear hx60_0
                                try clear hx64_0
                                try clear hx64_1
                                try clear hx64_2
                                try clear hx64_3
                                try clear hx64_4
                                try clear hx64_5
                                try clear hx64_6
                                try clear hx65_0
                                try clear p1
                                try clear p18
                                try clear p2
                                try clear p3
                                try clear p39
                                try clear p392
                                try clear p393
                                try clear p395
                                try clear p398
                                try clear p4
                                try clear p400
                                try clear p401
                                try clear p402
                                try clear p403
                                try clear p404
                                try clear p405
                                try clear p47
                                try clear p5
                                try clear p53
                                try clear p59
                                try clear p6
                                try clear p64
                                try clear q1
                                try clear q18
                                try clear q3
                                try clear q39
                                try clear q392
                                try clear q393
                                try clear q395
                                try clear q398
                                try clear q4
                                try clear q400
                                try clear q401
                                try clear q402
                                try clear q403
                                try clear q404
                                try clear q405
                                try clear q47
                                try clear q5
                                try clear q53
                                try clear q59
                                try clear q6
                                try clear q64
                                obtain ⟨kq, x131_66, rfl, HA, HJ66, HO_7, HB⟩ := hcut
                                cases kq with
                                | zero => exact absurd HA.out (by simp [steelyardlaw14_TreeSame.j5])
                                | succ kj66 =>
                                  have H := HA.out
                                  clear HA
                                  simp only [steelyardlaw14_TreeSame.j5] at H
                                  by_cases c73 : x131_66 = true
                                  · subst c73
                                    have H1 : ((steelyardlaw14_wakes.f).bind fun t406 => (some t406)) = some r := by rw [if_pos rfl] at H; exact H
                                    clear H
                                    have H := H1
                                    clear H1
                                    replace H := Option.bind_eq_some_iff.mp H
                                    obtain ⟨t406, A740, H⟩ := H
                                    replace H : (some t406) = some r := H
                                    have A74 := Aside0.mk A740
                                    clear A740
                                    obtain rfl := Option.some.inj H
                                    go_wp2_with (first | (go_at_call 23; (with_reducible refine (steelyardlaw14_wakes.calls  t406 _ A74.out ?sideG_).mono ?_); (case sideG_ => (first | (with_reducible exact HG_.out) | exact HG_.out.below (by repeat (first | (with_reducible first | exact HB.out | apply below_alloc | apply pw_below_drewN | apply below_drew1) | exact HB.out)))); rintro e w75 ⟨rfl, hb⟩; have n0_ := Aside0.mk (Kd.R_below (by (with_reducible repeat (first | apply Kd.R_alloc | apply Kd.R_drewN | apply Kd.R_drew)); exact HO_7.out) hb); have n1_ := Aside0.mk (below_step (by repeat (first | (with_reducible first | exact HB.out | apply below_alloc | apply pw_below_drewN | apply below_drew1) | exact HB.out)) hb); clear HO_7; clear HB; have HO_7 := n0_; have HB := n1_; clear n0_ n1_; (try clear hb); (try clear hb2); (try clear hk); (try clear hi)))
                                    repeat (go_quiet (first | (go_at_call 23; (with_reducible refine (steelyardlaw14_wakes.calls  t406 _ A74.out ?sideG_).mono ?_); (case sideG_ => (first | (with_reducible exact HG_.out) | exact HG_.out.below (by repeat (first | (with_reducible first | exact HB.out | apply below_alloc | apply pw_below_drewN | apply below_drew1) | exact HB.out)))); rintro e w75 ⟨rfl, hb⟩; have n0_ := Aside0.mk (Kd.R_below (by (with_reducible repeat (first | apply Kd.R_alloc | apply Kd.R_drewN | apply Kd.R_drew)); exact HO_7.out) hb); have n1_ := Aside0.mk (below_step (by repeat (first | (with_reducible first | exact HB.out | apply below_alloc | apply pw_below_drewN | apply below_drew1) | exact HB.out)) hb); clear HO_7; clear HB; have HO_7 := n0_; have HB := n1_; clear n0_ n1_; (try clear hb); (try clear hb2); (try clear hk); (try clear hi))); try go_wp2_with (first | (go_at_call 23; (with_reducible refine (steelyardlaw14_wakes.calls  t406 _ A74.out ?sideG_).mono ?_); (case sideG_ => (first | (with_reducible exact HG_.out) | exact HG_.out.below (by repeat (first | (with_reducible first | exact HB.out | apply below_alloc | apply pw_below_drewN | apply below_drew1) | exact HB.out)))); rintro e w75 ⟨rfl, hb⟩; have n0_ := Aside0.mk (Kd.R_below (by (with_reducible repeat (first | apply Kd.R_alloc | apply Kd.R_drewN | apply Kd.R_drew)); exact HO_7.out) hb); have n1_ := Aside0.mk (below_step (by repeat (first | (with_reducible first | exact HB.out | apply below_alloc | apply pw_below_drewN | apply below_drew1) | exact HB.out)) hb); clear HO_7; clear HB; have HO_7 := n0_; have HB := n1_; clear n0_ n1_; (try clear hb); (try clear hb2); (try clear hk); (try clear hi))))
                                    go_ret
                                    exact ⟨by first | rfl | (simp [errW_none, errW_some] <;> rfl) | (simp only [← hji37]; first | rfl | (simp [errW_none, errW_some] <;> rfl)) | (simp [*, errW_none, errW_some] <;> rfl), by repeat (first | (with_reducible first | exact HB.out | apply below_alloc | apply pw_below_drewN | apply below_drew1) | exact HB.out)⟩
                                  · replace c73 := Bool.eq_false_iff.mpr c73
                                    subst c73
                                    have H1 : ((tree_Same.f l0 x7_39).bind fun t407 => (if t407 = true then (some false) else ((steelyardlaw14_wakes.f).bind fun t408 => (some t408)))) = some r := by rw [if_neg (show ¬ (false = true) by decide)] at H; exact H
                                    clear H
                                    have H := H1
                                    clear H1
                                    replace H := Option.bind_eq_some_iff.mp H
                                    obtain ⟨t407, A760, H⟩ := H
                                    replace H : (if t407 = true then (some false) else ((steelyardlaw14_wakes.f).bind fun t408 => (some t408))) = some r := H
                                    have A76 := Aside0.mk A760
                                    clear A760
                                    by_cases c77 : t407 = true
                                    · subst c77
                                      have H1 : (some false) = some r := by rw [if_pos rfl] at H; exact H
                                      clear H
                                      have H := H1
                                      clear H1
                                      obtain rfl := Option.some.inj H
                                      go_wp2_with (first | (go_at_call 38; (with_reducible refine (tree_Same.calls _ _ l0 _ _ x7_39 true _ ?side1 ?side2 ?side3 ?side4 A76.out).mono ?_); (case side1 => repeat (first | exact (Kd.C_below HR0.out HB.out) | (with_reducible refine Kd.C_alloc ?_ _) | (with_reducible refine Kd.C_drewN ?_ _) | (with_reducible refine Kd.C_drew ?_))); (case side2 => exact HC0.out); (case side3 => repeat (first | exact (Kd.R_reads' HO_7.out).2.2 | (with_reducible refine Kd.C_alloc ?_ _) | (with_reducible refine Kd.C_drewN ?_ _) | (with_reducible refine Kd.C_drew ?_))); (case side4 => exact (Kd.R_reads' HO_7.out).2.1); rintro e w78 ⟨rfl, hb⟩; have n0_ := Aside0.mk (Kd.R_below (by (with_reducible repeat (first | apply Kd.R_alloc | apply Kd.R_drewN | apply Kd.R_drew)); exact HO_7.out) hb); have n1_ := Aside0.mk (below_step (by repeat (first | (with_reducible first | exact HB.out | apply below_alloc | apply pw_below_drewN | apply below_drew1) | exact HB.out)) hb); clear HO_7; clear HB; have HO_7 := n0_; have HB := n1_; clear n0_ n1_; (try clear hb); (try clear hb2); (try clear hk); (try clear hi)))
                                      repeat (go_quiet (first | (go_at_call 38; (with_reducible refine (tree_Same.calls _ _ l0 _ _ x7_39 true _ ?side1 ?side2 ?side3 ?side4 A76.out).mono ?_); (case side1 => repeat (first | exact (Kd.C_below HR0.out HB.out) | (with_reducible refine Kd.C_alloc ?_ _) | (with_reducible refine Kd.C_drewN ?_ _) | (with_reducible refine Kd.C_drew ?_))); (case side2 => exact HC0.out); (case side3 => repeat (first | exact (Kd.R_reads' HO_7.out).2.2 | (with_reducible refine Kd.C_alloc ?_ _) | (with_reducible refine Kd.C_drewN ?_ _) | (with_reducible refine Kd.C_drew ?_))); (case side4 => exact (Kd.R_reads' HO_7.out).2.1); rintro e w78 ⟨rfl, hb⟩; have n0_ := Aside0.mk (Kd.R_below (by (with_reducible repeat (first | apply Kd.R_alloc | apply Kd.R_drewN | apply Kd.R_drew)); exact HO_7.out) hb); have n1_ := Aside0.mk (below_step (by repeat (first | (with_reducible first | exact HB.out | apply below_alloc | apply pw_below_drewN | apply below_drew1) | exact HB.out)) hb); clear HO_7; clear HB; have HO_7 := n0_; have HB := n1_; clear n0_ n1_; (try clear hb); (try clear hb2); (try clear hk); (try clear hi))); try go_wp2_with (first | (go_at_call 38; (with_reducible refine (tree_Same.calls _ _ l0 _ _ x7_39 true _ ?side1 ?side2 ?side3 ?side4 A76.out).mono ?_); (case side1 => repeat (first | exact (Kd.C_below HR0.out HB.out) | (with_reducible refine Kd.C_alloc ?_ _) | (with_reducible refine Kd.C_drewN ?_ _) | (with_reducible refine Kd.C_drew ?_))); (case side2 => exact HC0.out); (case side3 => repeat (first | exact (Kd.R_reads' HO_7.out).2.2 | (with_reducible refine Kd.C_alloc ?_ _) | (with_reducible refine Kd.C_drewN ?_ _) | (with_reducible refine Kd.C_drew ?_))); (case side4 => exact (Kd.R_reads' HO_7.out).2.1); rintro e w78 ⟨rfl, hb⟩; have n0_ := Aside0.mk (Kd.R_below (by (with_reducible repeat (first | apply Kd.R_alloc | apply Kd.R_drewN | apply Kd.R_drew)); exact HO_7.out) hb); have n1_ := Aside0.mk (below_step (by repeat (first | (with_reducible first | exact HB.out | apply below_alloc | apply pw_below_drewN | apply below_drew1) | exact HB.out)) hb); clear HO_7; clear HB; have HO_7 := n0_; have HB := n1_; clear n0_ n1_; (try clear hb); (try clear hb2); (try clear hk); (try clear hi))))
                                      go_ret
                                      exact ⟨by first | rfl | (simp [errW_none, errW_some] <;> rfl) | (simp only [← hji37]; first | rfl | (simp [errW_none, errW_some] <;> rfl)) | (simp [*, errW_none, errW_some] <;> rfl), by repeat (first | (with_reducible first | exact HB.out | apply below_alloc | apply pw_below_drewN | apply below_drew1) | exact HB.out)⟩
                                    · replace c77 := Bool.eq_false_iff.mpr c77
                                      subst c77
                                      have H1 : ((steelyardlaw14_wakes.f).bind fun t408 => (some t408)) = some r := by rw [if_neg (show ¬ (false = true) by decide)] at H; exact H
                                      clear H
                                      have H := H1
                                      clear H1
                                      replace H := Option.bind_eq_some_iff.mp H
                                      obtain ⟨t408, A790, H⟩ := H
                                      replace H : (some t408) = some r := H
                                      have A79 := Aside0.mk A790
                                      clear A790
                                      obtain rfl := Option.some.inj H
                                      go_wp2_with (first | (go_at_call 38; (with_reducible refine (tree_Same.calls _ _ l0 _ _ x7_39 false _ ?side1 ?side2 ?side3 ?side4 A76.out).mono ?_); (case side1 => repeat (first | exact (Kd.C_below HR0.out HB.out) | (with_reducible refine Kd.C_alloc ?_ _) | (with_reducible refine Kd.C_drewN ?_ _) | (with_reducible refine Kd.C_drew ?_))); (case side2 => exact HC0.out); (case side3 => repeat (first | exact (Kd.R_reads' HO_7.out).2.2 | (with_reducible refine Kd.C_alloc ?_ _) | (with_reducible refine Kd.C_drewN ?_ _) | (with_reducible refine Kd.C_drew ?_))); (case side4 => exact (Kd.R_reads' HO_7.out).2.1); rintro e w80 ⟨rfl, hb⟩; have n0_ := Aside0.mk (Kd.R_below (by (with_reducible repeat (first | apply Kd.R_alloc | apply Kd.R_drewN | apply Kd.R_drew)); exact HO_7.out) hb); have n1_ := Aside0.mk (below_step (by repeat (first | (with_reducible first | exact HB.out | apply below_alloc | apply pw_below_drewN | apply below_drew1) | exact HB.out)) hb); clear HO_7; clear HB; have HO_7 := n0_; have HB := n1_; clear n0_ n1_; (try clear hb); (try clear hb2); (try clear hk); (try clear hi)) | (go_at_call 23; (with_reducible refine (steelyardlaw14_wakes.calls  t408 _ A79.out ?sideG_).mono ?_); (case sideG_ => (first | (with_reducible exact HG_.out) | exact HG_.out.below (by repeat (first | (with_reducible first | exact HB.out | apply below_alloc | apply pw_below_drewN | apply below_drew1) | exact HB.out)))); rintro e w81 ⟨rfl, hb⟩; have n0_ := Aside0.mk (Kd.R_below (by (with_reducible repeat (first | apply Kd.R_alloc | apply Kd.R_drewN | apply Kd.R_drew)); exact HO_7.out) hb); have n1_ := Aside0.mk (below_step (by repeat (first | (with_reducible first | exact HB.out | apply below_alloc | apply pw_below_drewN | apply below_drew1) | exact HB.out)) hb); clear HO_7; clear HB; have HO_7 := n0_; have HB := n1_; clear n0_ n1_; (try clear hb); (try clear hb2); (try clear hk); (try clear hi)))
                                      repeat (go_quiet (first | (go_at_call 38; (with_reducible refine (tree_Same.calls _ _ l0 _ _ x7_39 false _ ?side1 ?side2 ?side3 ?side4 A76.out).mono ?_); (case side1 => repeat (first | exact (Kd.C_below HR0.out HB.out) | (with_reducible refine Kd.C_alloc ?_ _) | (with_reducible refine Kd.C_drewN ?_ _) | (with_reducible refine Kd.C_drew ?_))); (case side2 => exact HC0.out); (case side3 => repeat (first | exact (Kd.R_reads' HO_7.out).2.2 | (with_reducible refine Kd.C_alloc ?_ _) | (with_reducible refine Kd.C_drewN ?_ _) | (with_reducible refine Kd.C_drew ?_))); (case side4 => exact (Kd.R_reads' HO_7.out).2.1); rintro e w80 ⟨rfl, hb⟩; have n0_ := Aside0.mk (Kd.R_below (by (with_reducible repeat (first | apply Kd.R_alloc | apply Kd.R_drewN | apply Kd.R_drew)); exact HO_7.out) hb); have n1_ := Aside0.mk (below_step (by repeat (first | (with_reducible first | exact HB.out | apply below_alloc | apply pw_below_drewN | apply below_drew1) | exact HB.out)) hb); clear HO_7; clear HB; have HO_7 := n0_; have HB := n1_; clear n0_ n1_; (try clear hb); (try clear hb2); (try clear hk); (try clear hi)) | (go_at_call 23; (with_reducible refine (steelyardlaw14_wakes.calls  t408 _ A79.out ?sideG_).mono ?_); (case sideG_ => (first | (with_reducible exact HG_.out) | exact HG_.out.below (by repeat (first | (with_reducible first | exact HB.out | apply below_alloc | apply pw_below_drewN | apply below_drew1) | exact HB.out)))); rintro e w81 ⟨rfl, hb⟩; have n0_ := Aside0.mk (Kd.R_below (by (with_reducible repeat (first | apply Kd.R_alloc | apply Kd.R_drewN | apply Kd.R_drew)); exact HO_7.out) hb); have n1_ := Aside0.mk (below_step (by repeat (first | (with_reducible first | exact HB.out | apply below_alloc | apply pw_below_drewN | apply below_drew1) | exact HB.out)) hb); clear HO_7; clear HB; have HO_7 := n0_; have HB := n1_; clear n0_ n1_; (try clear hb); (try clear hb2); (try clear hk); (try clear hi))); try go_wp2_with (first | (go_at_call 38; (with_reducible refine (tree_Same.calls _ _ l0 _ _ x7_39 false _ ?side1 ?side2 ?side3 ?side4 A76.out).mono ?_); (case side1 => repeat (first | exact (Kd.C_below HR0.out HB.out) | (with_reducible refine Kd.C_alloc ?_ _) | (with_reducible refine Kd.C_drewN ?_ _) | (with_reducible refine Kd.C_drew ?_))); (case side2 => exact HC0.out); (case side3 => repeat (first | exact (Kd.R_reads' HO_7.out).2.2 | (with_reducible refine Kd.C_alloc ?_ _) | (with_reducible refine Kd.C_drewN ?_ _) | (with_reducible refine Kd.C_drew ?_))); (case side4 => exact (Kd.R_reads' HO_7.out).2.1); rintro e w80 ⟨rfl, hb⟩; have n0_ := Aside0.mk (Kd.R_below (by (with_reducible repeat (first | apply Kd.R_alloc | apply Kd.R_drewN | apply Kd.R_drew)); exact HO_7.out) hb); have n1_ := Aside0.mk (below_step (by repeat (first | (with_reducible first | exact HB.out | apply below_alloc | apply pw_below_drewN | apply below_drew1) | exact HB.out)) hb); clear HO_7; clear HB; have HO_7 := n0_; have HB := n1_; clear n0_ n1_; (try clear hb); (try clear hb2); (try clear hk); (try clear hi)) | (go_at_call 23; (with_reducible refine (steelyardlaw14_wakes.calls  t408 _ A79.out ?sideG_).mono ?_); (case sideG_ => (first | (with_reducible exact HG_.out) | exact HG_.out.below (by repeat (first | (with_reducible first | exact HB.out | apply below_alloc | apply pw_below_drewN | apply below_drew1) | exact HB.out)))); rintro e w81 ⟨rfl, hb⟩; have n0_ := Aside0.mk (Kd.R_below (by (with_reducible repeat (first | apply Kd.R_alloc | apply Kd.R_drewN | apply Kd.R_drew)); exact HO_7.out) hb); have n1_ := Aside0.mk (below_step (by repeat (first | (with_reducible first | exact HB.out | apply below_alloc | apply pw_below_drewN | apply below_drew1) | exact HB.out)) hb); clear HO_7; clear HB; have HO_7 := n0_; have HB := n1_; clear n0_ n1_; (try clear hb); (try clear hb2); (try clear hk); (try clear hi))))
                                      go_ret
                                      exact ⟨by first | rfl | (simp [errW_none, errW_some] <;> rfl) | (simp only [← hji37]; first | rfl | (simp [errW_none, errW_some] <;> rfl)) | (simp [*, errW_none, errW_some] <;> rfl), by repeat (first | (with_reducible first | exact HB.out | apply below_alloc | apply pw_below_drewN | apply below_drew1) | exact HB.out)⟩
                        · rw [if_neg c39] at H
                          exact absurd H (by simp)
                      · rw [if_neg c38] at H
                        exact absurd H (by simp)
end Go.Proofs.YtcajdkncohcaeaaDoor.GTree
