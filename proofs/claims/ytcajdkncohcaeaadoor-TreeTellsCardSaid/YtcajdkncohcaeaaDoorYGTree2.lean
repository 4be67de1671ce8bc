import Derived.Test.YtcajdkncohcaeaaDoorYTrH
import Derived.Test.YtcajdkncohcaeaaDoorYTrG
import Derived.Test.YtcajdkncohcaeaaDoorYGTree0
namespace Go.Proofs.YtcajdkncohcaeaaDoor.GTree
open Go.RowKit Go.Proofs.YtcajdkncohcaeaaDoorW.PrintWords Go.Proofs.YtcajdkncohcaeaaDoorW.PrintLast Go.Proofs.YtcajdkncohcaeaaDoorW.PrintMore
attribute [local go_sem] max2_int min2_int max_two min_two max_three min_three max_four min_four   -- for this text's walks alone
set_option linter.unusedVariables false
set_option linter.unusedSimpArgs false
def steelyardkeep_LargeTree.l0 : Nat → List (S52) → Int → Int → Option (Bool)
 | 0,_,_,_ => none
 | k + 1,x0,x3,x4 => if x4 < (x0.length : Int) then (if x3 ≤ 6000 then (if 0 ≤ x4 then (steelyardkeep_LargeTree.l0 k x0 (wrap64 (x3 + ((1 + (mn (((rd_T52 x0 x4).f4).size : Int) 6000)) + (mn (((rd_T52 x0 x4).f5).size : Int) 6000)))) (wrap64 (x4 + 1))) else (none)) else (some (decide (x3 > 6000)))) else (some (decide (x3 > 6000)))
def steelyardkeep_LargeTree.f (k : Nat) (l0 : List (S52)) : Option (Bool) := steelyardkeep_LargeTree.l0 k l0 0 0
theorem steelyardkeep_LargeTree.mono_l : ∀ k,(∀ y0 y1 y2,LeO (steelyardkeep_LargeTree.l0 k y0 y1 y2) (steelyardkeep_LargeTree.l0 (k + 1) y0 y1 y2))
 | 0 => fun _ _ _ r h => by simp [steelyardkeep_LargeTree.l0] at h
 | k + 1 => by
  have ih0 := steelyardkeep_LargeTree.mono_l k
  ·intro y0 y1 y2
   unfold steelyardkeep_LargeTree.l0
   repeat' first
   |(with_reducible exact ih0 _ _ _)
   |(with_reducible exact LeO.refl _)
   |(with_reducible exact LeO.none _)
   |(with_reducible refine LeO.ite ?_ ?_)
   |(with_reducible refine LeO.bind ?_ (fun _ => ?_))
   | exact ih0 _ _ _
   | exact LeO.none _
   | refine LeO.ite ?_ ?_
   | refine LeO.bind ?_ (fun _ => ?_)
theorem steelyardkeep_LargeTree.mono : ∀ a0 k,LeO (steelyardkeep_LargeTree.f k a0) (steelyardkeep_LargeTree.f (k + 1) a0) := by
 intro a0 k
 have ih0 := steelyardkeep_LargeTree.mono_l k
 unfold steelyardkeep_LargeTree.f
 repeat' first
  |(with_reducible exact ih0 _ _ _)
  |(with_reducible exact LeO.refl _)
  |(with_reducible exact LeO.none _)
  |(with_reducible refine LeO.ite ?_ ?_)
  |(with_reducible refine LeO.bind ?_ (fun _ => ?_))
  | exact ih0 _ _ _
  | exact LeO.none _
  | refine LeO.ite ?_ ?_
  | refine LeO.bind ?_ (fun _ => ?_)
set_option maxHeartbeats 8000000 in
set_option maxRecDepth 100000 in
theorem steelyardkeep_LargeTree.calls (k : Nat) (A0 : Option Addr) (c0 : Nat) (l0 : List (S52)) (r : Bool) (w : World) (hr0 : Kd.C k52 w A0 l0.length l0) (hc0 : l0.length ≤ c0) (h : steelyardkeep_LargeTree.f k l0 = some r) :
 Calls Tryd.prog 22 #[.slice A0 l0.length c0] w fun e w' => e = .returned (.bool r) ∧ Below w.heap.size w w' := by
 have HR0 := Aside0.mk hr0
 have HC0 := Aside0.mk hc0
 clear hr0 hc0
 have HB := Aside0.mk (Below.refl w.heap.size w)
 have H : (steelyardkeep_LargeTree.l0 k l0 0 0) = some r := h
 clear h
 have H' := Aside0.mk H
 clear H
 go_enter Tryd.func22,Tryd.ntmps22
 go_wp2
 repeat (go_quiet (fail);try go_wp2)
 go_loopg [3,4] k (fun kq v3 v4 w' => ∃ (x3_1 : Int) (x4_1 : Int),v3 = .int .i64 x3_1 ∧ v4 = .int .i64 x4_1 ∧ Aside0 (steelyardkeep_LargeTree.l0 kq l0 x3_1 x4_1 = some r) ∧ Aside0 (kq ≤ k) ∧ Aside0 (Below w.heap.size w w'))
 case atStart => exact ⟨(0),(0),(by first | rfl | (simp;done) | (simp [*];done)),(by first | rfl | (simp;done) | (simp [*];done)),H',⟨Nat.le_refl _⟩,⟨by repeat (first | (with_reducible first | exact HB.out | apply below_alloc | apply pw_below_drewN | apply below_drew1) | exact HB.out)⟩⟩
 case round =>
  clear H'
  obtain ⟨x3_1,x4_1,rfl,rfl,HA,HK1,HB⟩ := hrel
  cases gk with
  | zero => exact absurd HA.out (by simp [steelyardkeep_LargeTree.l0])
  | succ k1 =>
   have H := HA.out
   clear HA
   simp only [steelyardkeep_LargeTree.l0] at H
   by_cases c2 : x4_1 < (l0.length : Int)
   ·rw [if_pos c2] at H
    have c2b0 : decide (x4_1 < (l0.length : Int)) = true := decide_eq_true c2
    clear c2
    by_cases c3 : x3_1 ≤ 6000
    ·rw [if_pos c3] at H
     have c3b0 : decide (x3_1 ≤ 6000) = true := decide_eq_true c3
     clear c3
     by_cases c4 : 0 ≤ x4_1
     ·rw [if_pos c4] at H
      have c4b0 : decide (0 ≤ x4_1) = true := decide_eq_true c4
      clear c4
      obtain ⟨ji5,hji5⟩ : ∃ j_ : Int,(mn (((rd_T52 l0 x4_1).f4).size : Int) 6000) = j_ := ⟨_,rfl⟩
      replace H : (steelyardkeep_LargeTree.l0 k1 l0 (wrap64 (x3_1 + ((1 + (ji5)) + (mn (((rd_T52 l0 x4_1).f5).size : Int) 6000)))) (wrap64 (x4_1 + 1))) = some r := by first | (rw [hji5] at H;exact H) | (simp only [hji5] at H ⊢;exact H)
      have hji5_ : (if 6000 < (((rd_T52 l0 x4_1).f4).size : Int) then 6000 else (((rd_T52 l0 x4_1).f4).size : Int)) = ji5 := hji5
      obtain ⟨ji6,hji6⟩ : ∃ j_ : Int,(mn (((rd_T52 l0 x4_1).f5).size : Int) 6000) = j_ := ⟨_,rfl⟩
      replace H : (steelyardkeep_LargeTree.l0 k1 l0 (wrap64 (x3_1 + ((1 + (ji5)) + (ji6)))) (wrap64 (x4_1 + 1))) = some r := by first | (rw [hji6] at H;exact H) | (simp only [hji6] at H ⊢;exact H)
      have hji6_ : (if 6000 < (((rd_T52 l0 x4_1).f5).size : Int) then 6000 else (((rd_T52 l0 x4_1).f5).size : Int)) = ji6 := hji6
      have H' := Aside0.mk H
      clear H
      have p101 : 0 ≤ (x4_1 : Int) := of_decide_eq_true (by first | (with_reducible assumption) | assumption)
      have q101 : x4_1 < (l0.length : Int) := of_decide_eq_true (by first | (with_reducible assumption) | assumption)
      obtain ⟨ad101,e101,hx101_0,hx101_1,hx101_2,hx101_3,hx101_4,hx101_5,hx101_6⟩ := at_T52 HR0.out x4_1 p101 q101
      cases e101
      replace hx101_0 := (HB.out.cell (World.block_lt_of_cell? w _ hx101_0)).trans hx101_0
      replace hx101_1 := (HB.out.cell (World.block_lt_of_cell? w _ hx101_1)).trans hx101_1
      replace hx101_2 := (HB.out.cell (World.block_lt_of_cell? w _ hx101_2)).trans hx101_2
      replace hx101_3 := (HB.out.cell (World.block_lt_of_cell? w _ hx101_3)).trans hx101_3
      replace hx101_4 := (HB.out.cell (World.block_lt_of_cell? w _ hx101_4)).trans hx101_4
      replace hx101_5 := (HB.out.cell (World.block_lt_of_cell? w _ hx101_5)).trans hx101_5
      replace hx101_6 := (HB.out.cell (World.block_lt_of_cell? w _ hx101_6)).trans hx101_6
      replace p101 := eq_true p101
      replace q101 := eq_true q101
      have p102 : 0 ≤ (x4_1 : Int) := of_decide_eq_true (by first | (with_reducible assumption) | assumption)
      have q102 : x4_1 < (l0.length : Int) := of_decide_eq_true (by first | (with_reducible assumption) | assumption)
      obtain ⟨ad102,e102,hx102_0,hx102_1,hx102_2,hx102_3,hx102_4,hx102_5,hx102_6⟩ := at_T52 HR0.out x4_1 p102 q102
      obtain rfl : ad101 = ad102 := (by injection e102)
      replace hx102_0 := (HB.out.cell (World.block_lt_of_cell? w _ hx102_0)).trans hx102_0
      replace hx102_1 := (HB.out.cell (World.block_lt_of_cell? w _ hx102_1)).trans hx102_1
      replace hx102_2 := (HB.out.cell (World.block_lt_of_cell? w _ hx102_2)).trans hx102_2
      replace hx102_3 := (HB.out.cell (World.block_lt_of_cell? w _ hx102_3)).trans hx102_3
      replace hx102_4 := (HB.out.cell (World.block_lt_of_cell? w _ hx102_4)).trans hx102_4
      replace hx102_5 := (HB.out.cell (World.block_lt_of_cell? w _ hx102_5)).trans hx102_5
      replace hx102_6 := (HB.out.cell (World.block_lt_of_cell? w _ hx102_6)).trans hx102_6
      replace p102 := eq_true p102
      replace q102 := eq_true q102
      go_wp2
      repeat (go_quiet (fail);try go_wp2)
      go_roundg k1
      case measure => have := HK1.out;omega
      case rel => exact ⟨(wrap64 (x3_1 + ((1 + (ji5)) + (ji6)))),(wrap64 (x4_1 + 1)),(by first | rfl | (simp;done) | (simp only [← hji5,← hji6] <;> (first | rfl | simp)) | (simp [*];done)),(by first | rfl | (simp;done) | (simp [*];done)),H',⟨by have := HK1.out;omega⟩,⟨by repeat (first | (with_reducible first | exact HB.out | apply below_alloc | apply pw_below_drewN | apply below_drew1) | exact HB.out)⟩⟩
     ·rw [if_neg c4] at H
      exact absurd H (by simp)
    ·rw [if_neg c3] at H
     have c3b0 : decide (x3_1 ≤ 6000) = false := decide_eq_false c3
     clear c3
     obtain rfl := Option.some.inj H
     go_wp2
     repeat (go_quiet (fail);try go_wp2)
     go_ret
     exact ⟨by first | rfl | (simp [errW_none,errW_some] <;> rfl) | (simp [*,errW_none,errW_some] <;> rfl),by repeat (first | (with_reducible first | exact HB.out | apply below_alloc | apply pw_below_drewN | apply below_drew1) | exact HB.out)⟩
   ·rw [if_neg c2] at H
    have c2b0 : decide (x4_1 < (l0.length : Int)) = false := decide_eq_false c2
    clear c2
    obtain rfl := Option.some.inj H
    go_wp2
    repeat (go_quiet (fail);try go_wp2)
    go_ret
    exact ⟨by first | rfl | (simp [errW_none,errW_some] <;> rfl) | (simp [*,errW_none,errW_some] <;> rfl),by repeat (first | (with_reducible first | exact HB.out | apply below_alloc | apply pw_below_drewN | apply below_drew1) | exact HB.out)⟩
def tree_begin.f (a0_0 a0_1 a0_2 a0_3 : Int) (a0_4 a0_5 : ByteArray) (a0_6 : Int) (l1 : List Int) : Option (Int × Bool) := beginF a0_0 a0_1 a0_2 a0_3 a0_4 a0_5 l1
theorem tree_begin.calls (a0_0 a0_1 a0_2 a0_3 : Int) (a0_4 a0_5 : ByteArray) (a0_6 : Int) (A1 : Option Addr) (c1 : Nat) (l1 : List Int) (r1 : Int) (r2 : Bool) (w : World) (hr1 : Kd.C (Kd.int .i64) w A1 l1.length l1) (hc1 : l1.length ≤ c1) (h : tree_begin.f a0_0 a0_1 a0_2 a0_3 a0_4 a0_5 a0_6 l1 = some (r1,r2)) (hG : Glob w) :
 Calls Tryd.prog 64 #[.agg #[.int .i64 a0_0,.int .i64 a0_1,.int .i64 a0_2,.int .i64 a0_3,.string a0_4,.string a0_5,.int .i64 a0_6],.slice A1 l1.length c1] w fun e w' => e = .returned (.tuple #[.int .i64 r1,.bool r2]) ∧ Below w.heap.size w w' := begin_calls a0_0 a0_1 a0_2 a0_3 a0_4 a0_5 a0_6 A1 c1 l1 r1 r2 w hr1 h hG
mutual
def tree_Good.j0 : Nat → List (S52) → Bool → Option (Bool)
 | 0,_,_ => none
 | k + 1,x0,x15 => if x15 = true then (some false) else (tree_Good.l0 k x0 ([] : List Int) x0 (x0.length : Int) 0)
def tree_Good.l0 : Nat → List (S52) → List Int → List (S52) → Int → Int → Option (Bool)
 | 0,_,_,_,_,_ => none
 | k + 1,x0,x3,x16,x17,x18 => if x18 < x17 then (if 0 ≤ x18 then (if x18 < (x16.length : Int) then ((tree_begin.f ((rd_T52 x16 x18).f0) ((rd_T52 x16 x18).f1) ((rd_T52 x16 x18).f2) ((rd_T52 x16 x18).f3) ((rd_T52 x16 x18).f4) ((rd_T52 x16 x18).f5) ((rd_T52 x16 x18).f6) x3).bind fun bt105 => (if bt105.2 = true then (if x3.length < 17592186044416 then (tree_Good.l0 k x0 (x3 ++ [bt105.1]) x16 x17 (wrap64 (x18 + 1))) else (none)) else (some false))) else (none)) else (none)) else (if 0 ≤ (wrap64 ((x0.length : Int) - 1)) then (if (wrap64 ((x0.length : Int) - 1)) < (x3.length : Int) then (some ((rd x3 (wrap64 ((x0.length : Int) - 1))) == 0)) else (none)) else (none))
end
def tree_Good.f (k : Nat) (l0 : List (S52)) : Option (Bool) := if (l0.length : Int) < 1 then (tree_Good.j0 k l0 true) else (tree_Good.j0 k l0 (decide ((l0.length : Int) > 2000)))
theorem tree_Good.mono_l : ∀ k,(∀ y0 y1,LeO (tree_Good.j0 k y0 y1) (tree_Good.j0 (k + 1) y0 y1)) ∧ (∀ y0 y1 y2 y3 y4,LeO (tree_Good.l0 k y0 y1 y2 y3 y4) (tree_Good.l0 (k + 1) y0 y1 y2 y3 y4))
 | 0 => ⟨fun _ _ r h => by simp [tree_Good.j0] at h,fun _ _ _ _ _ r h => by simp [tree_Good.l0] at h⟩
 | k + 1 => by
  obtain ⟨ih0,ih1⟩ := tree_Good.mono_l k
  refine ⟨?_,?_⟩
  ·intro y0 y1
   unfold tree_Good.j0
   repeat' first
   |(with_reducible exact ih0 _ _)
   |(with_reducible exact ih1 _ _ _ _ _)
   |(with_reducible exact LeO.refl _)
   |(with_reducible exact LeO.none _)
   |(with_reducible refine LeO.ite ?_ ?_)
   |(with_reducible refine LeO.bind ?_ (fun _ => ?_))
   | exact ih0 _ _
   | exact ih1 _ _ _ _ _
   | exact LeO.none _
   | refine LeO.ite ?_ ?_
   | refine LeO.bind ?_ (fun _ => ?_)
  ·intro y0 y1 y2 y3 y4
   unfold tree_Good.l0
   repeat' first
   |(with_reducible exact ih0 _ _)
   |(with_reducible exact ih1 _ _ _ _ _)
   |(with_reducible exact LeO.refl _)
   |(with_reducible exact LeO.none _)
   |(with_reducible refine LeO.ite ?_ ?_)
   |(with_reducible refine LeO.bind ?_ (fun _ => ?_))
   | exact ih0 _ _
   | exact ih1 _ _ _ _ _
   | exact LeO.none _
   | refine LeO.ite ?_ ?_
   | refine LeO.bind ?_ (fun _ => ?_)
theorem tree_Good.mono : ∀ a0 k,LeO (tree_Good.f k a0) (tree_Good.f (k + 1) a0) := by
 intro a0 k
 obtain ⟨ih0,ih1⟩ := tree_Good.mono_l k
 unfold tree_Good.f
 repeat' first
  |(with_reducible exact ih0 _ _)
  |(with_reducible exact ih1 _ _ _ _ _)
  |(with_reducible exact LeO.refl _)
  |(with_reducible exact LeO.none _)
  |(with_reducible refine LeO.ite ?_ ?_)
  |(with_reducible refine LeO.bind ?_ (fun _ => ?_))
  | exact ih0 _ _
  | exact ih1 _ _ _ _ _
  | exact LeO.none _
  | refine LeO.ite ?_ ?_
  | refine LeO.bind ?_ (fun _ => ?_)
set_option maxHeartbeats 8000000 in
set_option maxRecDepth 100000 in
theorem tree_Good.calls (k : Nat) (A0 : Option Addr) (c0 : Nat) (l0 : List (S52)) (r : Bool) (w : World) (hr0 : Kd.C k52 w A0 l0.length l0) (hc0 : l0.length ≤ c0) (h : tree_Good.f k l0 = some r) (hG_ : Glob w) :
 Calls Tryd.prog 36 #[.slice A0 l0.length c0] w fun e w' => e = .returned (.bool r) ∧ Below w.heap.size w w' := by
 have HG_ := Aside0.mk hG_
 clear hG_
 have hu52 := Tryd.underlying52
 have HR0 := Aside0.mk hr0
 have HC0 := Aside0.mk hc0
 clear hr0 hc0
 have HB := Aside0.mk (Below.refl w.heap.size w)
 have H : (if (l0.length : Int) < 1 then (tree_Good.j0 k l0 true) else (tree_Good.j0 k l0 (decide ((l0.length : Int) > 2000)))) = some r := h
 clear h
 have HC2 := Aside0.mk H
 clear H
 go_enter Tryd.func36,Tryd.ntmps36
 go_upto_region 1 with (fail)
 go_cut [15] (fun v15 wc => ∃ (kq : Nat) (x15_1 : Bool),v15 = .bool x15_1 ∧ Aside0 (tree_Good.j0 kq l0 x15_1 = some r) ∧ Aside0 (kq ≤ k) ∧ Aside0 (Below w.heap.size w wc))
 case first =>
  have H := HC2.out
  clear HC2
  by_cases c3 : (l0.length : Int) < 1
  ·rw [if_pos c3] at H
   have c3b0 : decide ((l0.length : Int) < 1) = true := decide_eq_true c3
   have c3b1 : decide (l0.length < 1) = true := decide_eq_true (by omega)
   clear c3
   (first | rw [c3b0] | (simp only [i64_w,i32_w];rw [c3b0]) | skip)
   have H' := Aside0.mk H
   clear H
   go_wp2
   go_meet
   case rel => exact ⟨_,(true),(by first | rfl | (simp;done) | (simp [*];done)),H',⟨by first | omega | exact Nat.le_refl _⟩,⟨by repeat (first | (with_reducible first | exact HB.out | apply below_alloc | apply pw_below_drewN | apply below_drew1) | exact HB.out)⟩⟩
  ·rw [if_neg c3] at H
   have c3b0 : decide ((l0.length : Int) < 1) = false := decide_eq_false c3
   have c3b1 : decide (l0.length < 1) = false := decide_eq_false (by omega)
   clear c3
   (first | rw [c3b0] | (simp only [i64_w,i32_w];rw [c3b0]) | skip)
   have H' := Aside0.mk H
   clear H
   go_wp2
   go_meet
   case rel => exact ⟨_,(decide ((l0.length : Int) > 2000)),(by first | rfl | (simp;done) | (simp [*];done)),H',⟨by first | omega | exact Nat.le_refl _⟩,⟨by repeat (first | (with_reducible first | exact HB.out | apply below_alloc | apply pw_below_drewN | apply below_drew1) | exact HB.out)⟩⟩
 case rest =>
  clear HC2
  try clear p2
  try clear c3
  try clear c3b0
  try clear c3b1
  obtain ⟨kq,x15_1,rfl,HA,HJ1,HB⟩ := hcut
  cases kq with
  | zero => exact absurd HA.out (by simp [tree_Good.j0])
  | succ kj1 =>
   have H := HA.out
   clear HA
   simp only [tree_Good.j0] at H
   by_cases c4 : x15_1 = true
   ·subst c4
    have H1 : (some false) = some r := by rw [if_pos rfl] at H;exact H
    clear H
    have H := H1
    clear H1
    obtain rfl := Option.some.inj H
    go_wp2
    go_ret
    exact ⟨by first | rfl | (simp [errW_none,errW_some] <;> rfl) | (simp [*,errW_none,errW_some] <;> rfl),by repeat (first | (with_reducible first | exact HB.out | apply below_alloc | apply pw_below_drewN | apply below_drew1) | exact HB.out)⟩
   ·replace c4 := Bool.eq_false_iff.mpr c4
    subst c4
    have H1 : (tree_Good.l0 kj1 l0 ([] : List Int) l0 (l0.length : Int) 0) = some r := by rw [if_neg (show ¬ (false = true) by decide)] at H;exact H
    clear H
    have H := H1
    clear H1
    have H' := Aside0.mk H
    clear H
    go_wp2
    go_loopg [3,18] kj1 (fun kq v3 v18 w' => ∃ (x3_2 : List Int) (x18_2 : Int),v18 = .int .i64 x18_2 ∧ Aside0 (tree_Good.l0 kq l0 x3_2 l0 (l0.length : Int) x18_2 = some r) ∧ Aside0 (kq ≤ kj1) ∧ Aside0 (Kd.R (Kd.int .i64) 3 w' w.heap.size (fun _ => True) v3 x3_2) ∧ Aside0 (Below w.heap.size w w'))
    case atStart => exact ⟨(([] : List Int)),(0),(by first | rfl | (simp;done) | (simp [*];done)),H',⟨Nat.le_refl _⟩,⟨by first | exact Kd.R_nil _ _ _ _ _ | exact Kd.N_nil _ _ _ _ _ | exact Kd.V_nil _ _ _ _ _ | exact Kd.Q_nil _ _ _ _ _ | exact Kd.S_nil _ _ _ _ _⟩,⟨by repeat (first | (with_reducible first | exact HB.out | apply below_alloc | apply pw_below_drewN | apply below_drew1) | exact HB.out)⟩⟩
    case round =>
     clear H'
     try clear p2
     try clear c3
     try clear c3b0
     try clear c3b1
     try clear c4
     try clear p2
     obtain ⟨x3_2,x18_2,rfl,HA,HK2,HO_3,HB⟩ := hrel
     cases gk with
     | zero => exact absurd HA.out (by simp [tree_Good.l0])
     | succ k2 =>
      have H := HA.out
      clear HA
      simp only [tree_Good.l0] at H
      by_cases c5 : x18_2 < (l0.length : Int)
      ·rw [if_pos c5] at H
       have c5b0 : decide (x18_2 < (l0.length : Int)) = true := decide_eq_true c5
       clear c5
       by_cases c6 : 0 ≤ x18_2
       ·rw [if_pos c6] at H
        have c6b0 : decide (0 ≤ x18_2) = true := decide_eq_true c6
        clear c6
        by_cases c7 : x18_2 < (l0.length : Int)
        ·rw [if_pos c7] at H
         have c7b0 : decide (x18_2 < (l0.length : Int)) = true := decide_eq_true c7
         clear c7
         replace H := Option.bind_eq_some_iff.mp H
         obtain ⟨⟨t105,t106⟩,A80,H⟩ := H
         replace H : (if t106 = true then (if x3_2.length < 17592186044416 then (tree_Good.l0 k2 l0 (x3_2 ++ [t105]) l0 (l0.length : Int) (wrap64 (x18_2 + 1))) else (none)) else (some false)) = some r := H
         have A8 := Aside0.mk A80
         clear A80
         by_cases c9 : t106 = true
         ·subst c9
          have H1 : (if x3_2.length < 17592186044416 then (tree_Good.l0 k2 l0 (x3_2 ++ [t105]) l0 (l0.length : Int) (wrap64 (x18_2 + 1))) else (none)) = some r := by rw [if_pos rfl] at H;exact H
          clear H
          have H := H1
          clear H1
          by_cases c10 : x3_2.length < 17592186044416
          ·rw [if_pos c10] at H
           have LMc10 := Aside0.mk c10
           clear c10
           obtain ⟨y107,hy107⟩ : ∃ y_ : List Int,y_ = (x3_2 ++ [t105]) := ⟨_,rfl⟩
           replace H : (tree_Good.l0 k2 l0 y107 l0 (l0.length : Int) (wrap64 (x18_2 + 1))) = some r := by first | (rw [hy107];with_reducible exact H) | (have H2_ := (Option.bind_some _ _).symm.trans H;rw [hy107];with_reducible exact H2_) | (have H2_ := (Option.bind_some _ _).symm.trans H;with_reducible exact H2_) | with_reducible exact H | (rw [hy107];exact H) | exact H
           have Ny107 := Aside0.mk hy107
           clear hy107
           have H' := Aside0.mk H
           clear H
           have p103 : 0 ≤ (x18_2 : Int) := of_decide_eq_true (by first | (with_reducible assumption) | assumption)
           have q103 : x18_2 < (l0.length : Int) := of_decide_eq_true (by first | (with_reducible assumption) | assumption)
           obtain ⟨ad103,e103,hx103_0,hx103_1,hx103_2,hx103_3,hx103_4,hx103_5,hx103_6⟩ := at_T52 HR0.out x18_2 p103 q103
           cases e103
           replace hx103_0 := (HB.out.cell (World.block_lt_of_cell? w _ hx103_0)).trans hx103_0
           replace hx103_1 := (HB.out.cell (World.block_lt_of_cell? w _ hx103_1)).trans hx103_1
           replace hx103_2 := (HB.out.cell (World.block_lt_of_cell? w _ hx103_2)).trans hx103_2
           replace hx103_3 := (HB.out.cell (World.block_lt_of_cell? w _ hx103_3)).trans hx103_3
           replace hx103_4 := (HB.out.cell (World.block_lt_of_cell? w _ hx103_4)).trans hx103_4
           replace hx103_5 := (HB.out.cell (World.block_lt_of_cell? w _ hx103_5)).trans hx103_5
           replace hx103_6 := (HB.out.cell (World.block_lt_of_cell? w _ hx103_6)).trans hx103_6
           replace p103 := eq_true p103
           replace q103 := eq_true q103
           go_wp2_with (first | ((with_reducible refine gate_dst (N := 5) rfl ?_);(try (refine gate_guard (by rfl) ?_;dsimp only));refine box_event ?hg (N := 5) ?hd (cs := #[.int .i64 0,.int .i64 0,.int .i64 0,.int .i64 0,.string (⟨#[]⟩ : ByteArray),.string (⟨#[]⟩ : ByteArray),.int .i64 0]) (t := 52) ?hr ?_;(case hd => rfl);(case hg => rfl);(case hr => first | (go_simp;done) | (go_simp;rfl));intro gb104 hg w11 hbox hb;have n0_ := Aside0.mk (Kd.R_below (by (with_reducible repeat (first | apply Kd.R_alloc | apply Kd.R_drewN | apply Kd.R_drew));exact HO_3.out) hb);have n1_ := Aside0.mk (below_step (by repeat (first | (with_reducible first | exact HB.out | apply below_alloc | apply pw_below_drewN | apply below_drew1) | exact HB.out)) hb);have n2_ := Aside0.mk (hbox);have n3_ := Aside0.mk ((by rw [hg];exact (below_size (by repeat (first | (with_reducible first | exact HB.out | apply below_alloc | apply pw_below_drewN | apply below_drew1) | exact HB.out))) : w.heap.size ≤ gb104));have n4_ := Aside0.mk ((by rw [hg];exact (below_size (by repeat (first | (with_reducible first | exact HB.out | apply below_alloc | apply pw_below_drewN | apply below_drew1) | exact HB.out))) : w.heap.size ≤ gb104));clear HO_3;clear HB;have HO_3 := n0_;have HB := n1_;have BK104 := n2_;have GW104 := n3_;have GE104 := n4_;clear n0_ n1_ n2_ n3_ n4_;clear hb hbox hg;have hcz12_0 : w11.cell? ⟨gb104,0,none⟩ = some (.int .i64 0) := (blk_cell BK104.out 0).trans rfl;have hcz12_1 : w11.cell? ⟨gb104,1,none⟩ = some (.int .i64 0) := (blk_cell BK104.out 1).trans rfl;have hcz12_2 : w11.cell? ⟨gb104,2,none⟩ = some (.int .i64 0) := (blk_cell BK104.out 2).trans rfl;have hcz12_3 : w11.cell? ⟨gb104,3,none⟩ = some (.int .i64 0) := (blk_cell BK104.out 3).trans rfl;have hcz12_4 : w11.cell? ⟨gb104,4,none⟩ = some (.string (⟨#[]⟩ : ByteArray)) := (blk_cell BK104.out 4).trans rfl;have hcz12_5 : w11.cell? ⟨gb104,5,none⟩ = some (.string (⟨#[]⟩ : ByteArray)) := (blk_cell BK104.out 5).trans rfl;have hcz12_6 : w11.cell? ⟨gb104,6,none⟩ = some (.int .i64 0) := (blk_cell BK104.out 6).trans rfl;have hfz12_0 := blk_frozen BK104.out 0;have hfz12_1 := blk_frozen BK104.out 1;have hfz12_2 := blk_frozen BK104.out 2;have hfz12_3 := blk_frozen BK104.out 3;have hfz12_4 := blk_frozen BK104.out 4;have hfz12_5 := blk_frozen BK104.out 5;have hfz12_6 := blk_frozen BK104.out 6;obtain ⟨Ao13,co13,eo13⟩ := Kd.R_slice HO_3.out;subst eo13) | ((with_reducible refine gate_callee (f := 64) rfl ?_);refine goesL_ (some 25) rfl rfl Tryd.func64 (by kernel_rfl) rfl #[.agg #[.int .i64 ((rd_T52 l0 x18_2).f0),.int .i64 ((rd_T52 l0 x18_2).f1),.int .i64 ((rd_T52 l0 x18_2).f2),.int .i64 ((rd_T52 l0 x18_2).f3),.string ((rd_T52 l0 x18_2).f4),.string ((rd_T52 l0 x18_2).f5),.int .i64 ((rd_T52 l0 x18_2).f6)],.slice Ao13 x3_2.length co13] rfl (by (try simp only [List.map_toArray,List.map_cons,List.map_nil]);first | done | rfl | (simp only [List.length_drop,List.length_take];rfl)) ?_;(with_reducible refine (tree_begin.calls ((rd_T52 l0 x18_2).f0) ((rd_T52 l0 x18_2).f1) ((rd_T52 l0 x18_2).f2) ((rd_T52 l0 x18_2).f3) ((rd_T52 l0 x18_2).f4) ((rd_T52 l0 x18_2).f5) ((rd_T52 l0 x18_2).f6) _ _ x3_2 t105 true _ ?side1 ?side2 A8.out ?sideG_).mono ?_);(case sideG_ => (first | (with_reducible exact HG_.out) | exact HG_.out.below (by repeat (first | (with_reducible first | exact HB.out | apply below_alloc | apply pw_below_drewN | apply below_drew1 | refine below_set ?_ GE104.out) | exact HB.out))));(case side1 => refine (Kd.R_reads' (e := 3) (base := w.heap.size) (ok := fun k_ => True) (n := x3_2.length) (c := co13) ?_).2.2;exact (by (with_reducible repeat (first | apply Kd.R_alloc | apply Kd.R_drewN | apply Kd.R_drew));exact (Kd.R_mono (Kd.R_far (p := ⟨gb104,6,none⟩) (Kd.R_far (p := ⟨gb104,5,none⟩) (Kd.R_far (p := ⟨gb104,4,none⟩) (Kd.R_far (p := ⟨gb104,3,none⟩) (Kd.R_far (p := ⟨gb104,2,none⟩) (Kd.R_far (p := ⟨gb104,1,none⟩) (Kd.R_far (p := ⟨gb104,0,none⟩) (Kd.R_types HO_3.out BK104.out (by decide)) (fun _ hk => hk.2) (.int .i64 ((rd_T52 l0 x18_2).f0))) (fun _ hk => hk.2) (.int .i64 ((rd_T52 l0 x18_2).f1))) (fun _ hk => hk.2) (.int .i64 ((rd_T52 l0 x18_2).f2))) (fun _ hk => hk.2) (.int .i64 ((rd_T52 l0 x18_2).f3))) (fun _ hk => hk.2) (.string ((rd_T52 l0 x18_2).f4))) (fun _ hk => hk.2) (.string ((rd_T52 l0 x18_2).f5))) (fun _ hk => hk.2) (.int .i64 ((rd_T52 l0 x18_2).f6))) (fun _ h_ => h_.1))));(case side2 => exact (Kd.R_reads' HO_3.out).2.1);rintro e w14 ⟨rfl,hb⟩;refine ⟨_,rfl,?_⟩;have n0_ := Aside0.mk (Kd.R_below (by (with_reducible repeat (first | apply Kd.R_alloc | apply Kd.R_drewN | apply Kd.R_drew));exact (Kd.R_mono (Kd.R_far (p := ⟨gb104,6,none⟩) (Kd.R_far (p := ⟨gb104,5,none⟩) (Kd.R_far (p := ⟨gb104,4,none⟩) (Kd.R_far (p := ⟨gb104,3,none⟩) (Kd.R_far (p := ⟨gb104,2,none⟩) (Kd.R_far (p := ⟨gb104,1,none⟩) (Kd.R_far (p := ⟨gb104,0,none⟩) (Kd.R_types HO_3.out BK104.out (by decide)) (fun _ hk => hk.2) (.int .i64 ((rd_T52 l0 x18_2).f0))) (fun _ hk => hk.2) (.int .i64 ((rd_T52 l0 x18_2).f1))) (fun _ hk => hk.2) (.int .i64 ((rd_T52 l0 x18_2).f2))) (fun _ hk => hk.2) (.int .i64 ((rd_T52 l0 x18_2).f3))) (fun _ hk => hk.2) (.string ((rd_T52 l0 x18_2).f4))) (fun _ hk => hk.2) (.string ((rd_T52 l0 x18_2).f5))) (fun _ hk => hk.2) (.int .i64 ((rd_T52 l0 x18_2).f6))) (fun _ h_ => h_.1))) hb);have n1_ := Aside0.mk (blk_below (g := gb104) (o := .cells #[.int .i64 ((rd_T52 l0 x18_2).f0),.int .i64 ((rd_T52 l0 x18_2).f1),.int .i64 ((rd_T52 l0 x18_2).f2),.int .i64 ((rd_T52 l0 x18_2).f3),.string ((rd_T52 l0 x18_2).f4),.string ((rd_T52 l0 x18_2).f5),.int .i64 ((rd_T52 l0 x18_2).f6)] 52 (0,0)) (by (with_reducible repeat (first | refine blk_drewN ?_ _ | refine blk_drew ?_ | refine blk_alloc ?_ _));refine blk_put (cs := #[.int .i64 ((rd_T52 l0 x18_2).f0),.int .i64 ((rd_T52 l0 x18_2).f1),.int .i64 ((rd_T52 l0 x18_2).f2),.int .i64 ((rd_T52 l0 x18_2).f3),.string ((rd_T52 l0 x18_2).f4),.string ((rd_T52 l0 x18_2).f5),.int .i64 0]) ?_ 6 _ rfl;(with_reducible repeat (first | refine blk_drewN ?_ _ | refine blk_drew ?_ | refine blk_alloc ?_ _));refine blk_put (cs := #[.int .i64 ((rd_T52 l0 x18_2).f0),.int .i64 ((rd_T52 l0 x18_2).f1),.int .i64 ((rd_T52 l0 x18_2).f2),.int .i64 ((rd_T52 l0 x18_2).f3),.string ((rd_T52 l0 x18_2).f4),.string (⟨#[]⟩ : ByteArray),.int .i64 0]) ?_ 5 _ rfl;(with_reducible repeat (first | refine blk_drewN ?_ _ | refine blk_drew ?_ | refine blk_alloc ?_ _));refine blk_put (cs := #[.int .i64 ((rd_T52 l0 x18_2).f0),.int .i64 ((rd_T52 l0 x18_2).f1),.int .i64 ((rd_T52 l0 x18_2).f2),.int .i64 ((rd_T52 l0 x18_2).f3),.string (⟨#[]⟩ : ByteArray),.string (⟨#[]⟩ : ByteArray),.int .i64 0]) ?_ 4 _ rfl;(with_reducible repeat (first | refine blk_drewN ?_ _ | refine blk_drew ?_ | refine blk_alloc ?_ _));refine blk_put (cs := #[.int .i64 ((rd_T52 l0 x18_2).f0),.int .i64 ((rd_T52 l0 x18_2).f1),.int .i64 ((rd_T52 l0 x18_2).f2),.int .i64 0,.string (⟨#[]⟩ : ByteArray),.string (⟨#[]⟩ : ByteArray),.int .i64 0]) ?_ 3 _ rfl;(with_reducible repeat (first | refine blk_drewN ?_ _ | refine blk_drew ?_ | refine blk_alloc ?_ _));refine blk_put (cs := #[.int .i64 ((rd_T52 l0 x18_2).f0),.int .i64 ((rd_T52 l0 x18_2).f1),.int .i64 0,.int .i64 0,.string (⟨#[]⟩ : ByteArray),.string (⟨#[]⟩ : ByteArray),.int .i64 0]) ?_ 2 _ rfl;(with_reducible repeat (first | refine blk_drewN ?_ _ | refine blk_drew ?_ | refine blk_alloc ?_ _));refine blk_put (cs := #[.int .i64 ((rd_T52 l0 x18_2).f0),.int .i64 0,.int .i64 0,.int .i64 0,.string (⟨#[]⟩ : ByteArray),.string (⟨#[]⟩ : ByteArray),.int .i64 0]) ?_ 1 _ rfl;(with_reducible repeat (first | refine blk_drewN ?_ _ | refine blk_drew ?_ | refine blk_alloc ?_ _));refine blk_put (cs := #[.int .i64 0,.int .i64 0,.int .i64 0,.int .i64 0,.string (⟨#[]⟩ : ByteArray),.string (⟨#[]⟩ : ByteArray),.int .i64 0]) ?_ 0 _ rfl;(with_reducible repeat (first | refine blk_drewN ?_ _ | refine blk_drew ?_ | refine blk_alloc ?_ _));exact BK104.out) hb);have n2_ := Aside0.mk (below_step (by repeat (first | (with_reducible first | exact HB.out | apply below_alloc | apply pw_below_drewN | apply below_drew1 | refine below_set ?_ GE104.out) | exact HB.out)) hb);clear HO_3;clear BK104;clear HB;have HO_3 := n0_;have BK104 := n1_;have HB := n2_;clear n0_ n1_ n2_;(try clear hb);(try clear hb2);(try clear hk);(try clear hi)) | ((with_reducible refine gate_builtin (b := .append) (xs := #[.tmp 30,.tmp 32]) rfl ?_);(try (refine gate_guard (by rfl) ?_;dsimp only));at_builtin;refine Kd.R_append (Kd.int .i64) (w0 := w) w.heap.size rfl (.tmp 30) (.tmp 32) 56 3 (.int .i64 0) 8 rfl Tryd.underlying56 info3 rfl (by decide) (by omega) (.slice Ao13 x3_2.length co13) x3_2 t105 [.int .i64 t105] (fun _ => True) (fun _ => False) rfl rfl ?aP (fun _ hk => hk.elim) ?aF ?aO ?aB ?aS ?aL ?_;(case aP => exact rfl);(case aB => exact (by repeat (first | (with_reducible first | exact HB.out | apply below_alloc | apply pw_below_drewN | apply below_drew1 | refine below_set ?_ GE104.out) | exact HB.out)));(case aF => exact (fun _ _ => trivial));(case aO => exact (by (with_reducible repeat (first | apply Kd.R_alloc | apply Kd.R_drewN | apply Kd.R_drew));exact HO_3.out));(case aS => exact (below_size (by repeat (first | (with_reducible first | exact HB.out | apply below_alloc | apply pw_below_drewN | apply below_drew1 | refine below_set ?_ GE104.out) | exact HB.out))));(case aL => have := LMc10.out;omega);intro v108 w15 ho hb hg hat;rw [← Ny107.out] at ho;have n0_ := Aside0.mk (blk_grown (g := gb104) (o := .cells #[.int .i64 ((rd_T52 l0 x18_2).f0),.int .i64 ((rd_T52 l0 x18_2).f1),.int .i64 ((rd_T52 l0 x18_2).f2),.int .i64 ((rd_T52 l0 x18_2).f3),.string ((rd_T52 l0 x18_2).f4),.string ((rd_T52 l0 x18_2).f5),.int .i64 ((rd_T52 l0 x18_2).f6)] 52 (0,0)) (by (with_reducible repeat (first | refine blk_drewN ?_ _ | refine blk_drew ?_ | refine blk_alloc ?_ _));exact BK104.out) hg (Kd.R_ne HO_3.out BK104.out (by decide)));have n1_ := Aside0.mk (hb);have n2_ := Aside0.mk (ho);clear BK104;clear HB;clear HO_3;have BK104 := n0_;have HB := n1_;have HO109 := n2_;clear n0_ n1_ n2_;clear ho hb hg hat))
           go_roundg k2
           case measure => have := HJ1.out;have := HK2.out;omega
           case rel => exact ⟨(y107),(wrap64 (x18_2 + 1)),(by first | rfl | (simp;done) | (simp [*];done)),H',⟨by have := HJ1.out;have := HK2.out;omega⟩,⟨by (with_reducible repeat (first | apply Kd.R_alloc | apply Kd.R_drewN | apply Kd.R_drew));exact HO109.out⟩,⟨by repeat (first | (with_reducible first | exact HB.out | apply below_alloc | apply pw_below_drewN | apply below_drew1 | refine below_set ?_ GE104.out) | exact HB.out)⟩⟩
          ·rw [if_neg c10] at H
           exact absurd H (by simp)
         ·replace c9 := Bool.eq_false_iff.mpr c9
          subst c9
          have H1 : (some false) = some r := by rw [if_neg (show ¬ (false = true) by decide)] at H;exact H
          clear H
          have H := H1
          clear H1
          obtain rfl := Option.some.inj H
          have p103 : 0 ≤ (x18_2 : Int) := of_decide_eq_true (by first | (with_reducible assumption) | assumption)
          have q103 : x18_2 < (l0.length : Int) := of_decide_eq_true (by first | (with_reducible assumption) | assumption)
          obtain ⟨ad103,e103,hx103_0,hx103_1,hx103_2,hx103_3,hx103_4,hx103_5,hx103_6⟩ := at_T52 HR0.out x18_2 p103 q103
          cases e103
          replace hx103_0 := (HB.out.cell (World.block_lt_of_cell? w _ hx103_0)).trans hx103_0
          replace hx103_1 := (HB.out.cell (World.block_lt_of_cell? w _ hx103_1)).trans hx103_1
          replace hx103_2 := (HB.out.cell (World.block_lt_of_cell? w _ hx103_2)).trans hx103_2
          replace hx103_3 := (HB.out.cell (World.block_lt_of_cell? w _ hx103_3)).trans hx103_3
          replace hx103_4 := (HB.out.cell (World.block_lt_of_cell? w _ hx103_4)).trans hx103_4
          replace hx103_5 := (HB.out.cell (World.block_lt_of_cell? w _ hx103_5)).trans hx103_5
          replace hx103_6 := (HB.out.cell (World.block_lt_of_cell? w _ hx103_6)).trans hx103_6
          replace p103 := eq_true p103
          replace q103 := eq_true q103
          go_wp2_with (first | ((with_reducible refine gate_dst (N := 5) rfl ?_);(try (refine gate_guard (by rfl) ?_;dsimp only));refine box_event ?hg (N := 5) ?hd (cs := #[.int .i64 0,.int .i64 0,.int .i64 0,.int .i64 0,.string (⟨#[]⟩ : ByteArray),.string (⟨#[]⟩ : ByteArray),.int .i64 0]) (t := 52) ?hr ?_;(case hd => rfl);(case hg => rfl);(case hr => first | (go_simp;done) | (go_simp;rfl));intro gb104 hg w16 hbox hb;have n0_ := Aside0.mk (Kd.R_below (by (with_reducible repeat (first | apply Kd.R_alloc | apply Kd.R_drewN | apply Kd.R_drew));exact HO_3.out) hb);have n1_ := Aside0.mk (below_step (by repeat (first | (with_reducible first | exact HB.out | apply below_alloc | apply pw_below_drewN | apply below_drew1) | exact HB.out)) hb);have n2_ := Aside0.mk (hbox);have n3_ := Aside0.mk ((by rw [hg];exact (below_size (by repeat (first | (with_reducible first | exact HB.out | apply below_alloc | apply pw_below_drewN | apply below_drew1) | exact HB.out))) : w.heap.size ≤ gb104));have n4_ := Aside0.mk ((by rw [hg];exact (below_size (by repeat (first | (with_reducible first | exact HB.out | apply below_alloc | apply pw_below_drewN | apply below_drew1) | exact HB.out))) : w.heap.size ≤ gb104));clear HO_3;clear HB;have HO_3 := n0_;have HB := n1_;have BK104 := n2_;have GW104 := n3_;have GE104 := n4_;clear n0_ n1_ n2_ n3_ n4_;clear hb hbox hg;have hcz17_0 : w16.cell? ⟨gb104,0,none⟩ = some (.int .i64 0) := (blk_cell BK104.out 0).trans rfl;have hcz17_1 : w16.cell? ⟨gb104,1,none⟩ = some (.int .i64 0) := (blk_cell BK104.out 1).trans rfl;have hcz17_2 : w16.cell? ⟨gb104,2,none⟩ = some (.int .i64 0) := (blk_cell BK104.out 2).trans rfl;have hcz17_3 : w16.cell? ⟨gb104,3,none⟩ = some (.int .i64 0) := (blk_cell BK104.out 3).trans rfl;have hcz17_4 : w16.cell? ⟨gb104,4,none⟩ = some (.string (⟨#[]⟩ : ByteArray)) := (blk_cell BK104.out 4).trans rfl;have hcz17_5 : w16.cell? ⟨gb104,5,none⟩ = some (.string (⟨#[]⟩ : ByteArray)) := (blk_cell BK104.out 5).trans rfl;have hcz17_6 : w16.cell? ⟨gb104,6,none⟩ = some (.int .i64 0) := (blk_cell BK104.out 6).trans rfl;have hfz17_0 := blk_frozen BK104.out 0;have hfz17_1 := blk_frozen BK104.out 1;have hfz17_2 := blk_frozen BK104.out 2;have hfz17_3 := blk_frozen BK104.out 3;have hfz17_4 := blk_frozen BK104.out 4;have hfz17_5 := blk_frozen BK104.out 5;have hfz17_6 := blk_frozen BK104.out 6;obtain ⟨Ao18,co18,eo18⟩ := Kd.R_slice HO_3.out;subst eo18) | ((with_reducible refine gate_callee (f := 64) rfl ?_);refine goesL_ (some 25) rfl rfl Tryd.func64 (by kernel_rfl) rfl #[.agg #[.int .i64 ((rd_T52 l0 x18_2).f0),.int .i64 ((rd_T52 l0 x18_2).f1),.int .i64 ((rd_T52 l0 x18_2).f2),.int .i64 ((rd_T52 l0 x18_2).f3),.string ((rd_T52 l0 x18_2).f4),.string ((rd_T52 l0 x18_2).f5),.int .i64 ((rd_T52 l0 x18_2).f6)],.slice Ao18 x3_2.length co18] rfl (by (try simp only [List.map_toArray,List.map_cons,List.map_nil]);first | done | rfl | (simp only [List.length_drop,List.length_take];rfl)) ?_;(with_reducible refine (tree_begin.calls ((rd_T52 l0 x18_2).f0) ((rd_T52 l0 x18_2).f1) ((rd_T52 l0 x18_2).f2) ((rd_T52 l0 x18_2).f3) ((rd_T52 l0 x18_2).f4) ((rd_T52 l0 x18_2).f5) ((rd_T52 l0 x18_2).f6) _ _ x3_2 t105 false _ ?side1 ?side2 A8.out ?sideG_).mono ?_);(case sideG_ => (first | (with_reducible exact HG_.out) | exact HG_.out.below (by repeat (first | (with_reducible first | exact HB.out | apply below_alloc | apply pw_below_drewN | apply below_drew1 | refine below_set ?_ GE104.out) | exact HB.out))));(case side1 => refine (Kd.R_reads' (e := 3) (base := w.heap.size) (ok := fun k_ => True) (n := x3_2.length) (c := co18) ?_).2.2;exact (by (with_reducible repeat (first | apply Kd.R_alloc | apply Kd.R_drewN | apply Kd.R_drew));exact (Kd.R_mono (Kd.R_far (p := ⟨gb104,6,none⟩) (Kd.R_far (p := ⟨gb104,5,none⟩) (Kd.R_far (p := ⟨gb104,4,none⟩) (Kd.R_far (p := ⟨gb104,3,none⟩) (Kd.R_far (p := ⟨gb104,2,none⟩) (Kd.R_far (p := ⟨gb104,1,none⟩) (Kd.R_far (p := ⟨gb104,0,none⟩) (Kd.R_types HO_3.out BK104.out (by decide)) (fun _ hk => hk.2) (.int .i64 ((rd_T52 l0 x18_2).f0))) (fun _ hk => hk.2) (.int .i64 ((rd_T52 l0 x18_2).f1))) (fun _ hk => hk.2) (.int .i64 ((rd_T52 l0 x18_2).f2))) (fun _ hk => hk.2) (.int .i64 ((rd_T52 l0 x18_2).f3))) (fun _ hk => hk.2) (.string ((rd_T52 l0 x18_2).f4))) (fun _ hk => hk.2) (.string ((rd_T52 l0 x18_2).f5))) (fun _ hk => hk.2) (.int .i64 ((rd_T52 l0 x18_2).f6))) (fun _ h_ => h_.1))));(case side2 => exact (Kd.R_reads' HO_3.out).2.1);rintro e w19 ⟨rfl,hb⟩;refine ⟨_,rfl,?_⟩;have n0_ := Aside0.mk (Kd.R_below (by (with_reducible repeat (first | apply Kd.R_alloc | apply Kd.R_drewN | apply Kd.R_drew));exact (Kd.R_mono (Kd.R_far (p := ⟨gb104,6,none⟩) (Kd.R_far (p := ⟨gb104,5,none⟩) (Kd.R_far (p := ⟨gb104,4,none⟩) (Kd.R_far (p := ⟨gb104,3,none⟩) (Kd.R_far (p := ⟨gb104,2,none⟩) (Kd.R_far (p := ⟨gb104,1,none⟩) (Kd.R_far (p := ⟨gb104,0,none⟩) (Kd.R_types HO_3.out BK104.out (by decide)) (fun _ hk => hk.2) (.int .i64 ((rd_T52 l0 x18_2).f0))) (fun _ hk => hk.2) (.int .i64 ((rd_T52 l0 x18_2).f1))) (fun _ hk => hk.2) (.int .i64 ((rd_T52 l0 x18_2).f2))) (fun _ hk => hk.2) (.int .i64 ((rd_T52 l0 x18_2).f3))) (fun _ hk => hk.2) (.string ((rd_T52 l0 x18_2).f4))) (fun _ hk => hk.2) (.string ((rd_T52 l0 x18_2).f5))) (fun _ hk => hk.2) (.int .i64 ((rd_T52 l0 x18_2).f6))) (fun _ h_ => h_.1))) hb);have n1_ := Aside0.mk (blk_below (g := gb104) (o := .cells #[.int .i64 ((rd_T52 l0 x18_2).f0),.int .i64 ((rd_T52 l0 x18_2).f1),.int .i64 ((rd_T52 l0 x18_2).f2),.int .i64 ((rd_T52 l0 x18_2).f3),.string ((rd_T52 l0 x18_2).f4),.string ((rd_T52 l0 x18_2).f5),.int .i64 ((rd_T52 l0 x18_2).f6)] 52 (0,0)) (by (with_reducible repeat (first | refine blk_drewN ?_ _ | refine blk_drew ?_ | refine blk_alloc ?_ _));refine blk_put (cs := #[.int .i64 ((rd_T52 l0 x18_2).f0),.int .i64 ((rd_T52 l0 x18_2).f1),.int .i64 ((rd_T52 l0 x18_2).f2),.int .i64 ((rd_T52 l0 x18_2).f3),.string ((rd_T52 l0 x18_2).f4),.string ((rd_T52 l0 x18_2).f5),.int .i64 0]) ?_ 6 _ rfl;(with_reducible repeat (first | refine blk_drewN ?_ _ | refine blk_drew ?_ | refine blk_alloc ?_ _));refine blk_put (cs := #[.int .i64 ((rd_T52 l0 x18_2).f0),.int .i64 ((rd_T52 l0 x18_2).f1),.int .i64 ((rd_T52 l0 x18_2).f2),.int .i64 ((rd_T52 l0 x18_2).f3),.string ((rd_T52 l0 x18_2).f4),.string (⟨#[]⟩ : ByteArray),.int .i64 0]) ?_ 5 _ rfl;(with_reducible repeat (first | refine blk_drewN ?_ _ | refine blk_drew ?_ | refine blk_alloc ?_ _));refine blk_put (cs := #[.int .i64 ((rd_T52 l0 x18_2).f0),.int .i64 ((rd_T52 l0 x18_2).f1),.int .i64 ((rd_T52 l0 x18_2).f2),.int .i64 ((rd_T52 l0 x18_2).f3),.string (⟨#[]⟩ : ByteArray),.string (⟨#[]⟩ : ByteArray),.int .i64 0]) ?_ 4 _ rfl;(with_reducible repeat (first | refine blk_drewN ?_ _ | refine blk_drew ?_ | refine blk_alloc ?_ _));refine blk_put (cs := #[.int .i64 ((rd_T52 l0 x18_2).f0),.int .i64 ((rd_T52 l0 x18_2).f1),.int .i64 ((rd_T52 l0 x18_2).f2),.int .i64 0,.string (⟨#[]⟩ : ByteArray),.string (⟨#[]⟩ : ByteArray),.int .i64 0]) ?_ 3 _ rfl;(with_reducible repeat (first | refine blk_drewN ?_ _ | refine blk_drew ?_ | refine blk_alloc ?_ _));refine blk_put (cs := #[.int .i64 ((rd_T52 l0 x18_2).f0),.int .i64 ((rd_T52 l0 x18_2).f1),.int .i64 0,.int .i64 0,.string (⟨#[]⟩ : ByteArray),.string (⟨#[]⟩ : ByteArray),.int .i64 0]) ?_ 2 _ rfl;(with_reducible repeat (first | refine blk_drewN ?_ _ | refine blk_drew ?_ | refine blk_alloc ?_ _));refine blk_put (cs := #[.int .i64 ((rd_T52 l0 x18_2).f0),.int .i64 0,.int .i64 0,.int .i64 0,.string (⟨#[]⟩ : ByteArray),.string (⟨#[]⟩ : ByteArray),.int .i64 0]) ?_ 1 _ rfl;(with_reducible repeat (first | refine blk_drewN ?_ _ | refine blk_drew ?_ | refine blk_alloc ?_ _));refine blk_put (cs := #[.int .i64 0,.int .i64 0,.int .i64 0,.int .i64 0,.string (⟨#[]⟩ : ByteArray),.string (⟨#[]⟩ : ByteArray),.int .i64 0]) ?_ 0 _ rfl;(with_reducible repeat (first | refine blk_drewN ?_ _ | refine blk_drew ?_ | refine blk_alloc ?_ _));exact BK104.out) hb);have n2_ := Aside0.mk (below_step (by repeat (first | (with_reducible first | exact HB.out | apply below_alloc | apply pw_below_drewN | apply below_drew1 | refine below_set ?_ GE104.out) | exact HB.out)) hb);clear HO_3;clear BK104;clear HB;have HO_3 := n0_;have BK104 := n1_;have HB := n2_;clear n0_ n1_ n2_;(try clear hb);(try clear hb2);(try clear hk);(try clear hi)))
          go_ret
          exact ⟨by first | rfl | (simp [errW_none,errW_some] <;> rfl) | (simp [*,errW_none,errW_some] <;> rfl),by repeat (first | (with_reducible first | exact HB.out | apply below_alloc | apply pw_below_drewN | apply below_drew1 | refine below_set ?_ GE104.out) | exact HB.out)⟩
        ·rw [if_neg c7] at H
         exact absurd H (by simp)
       ·rw [if_neg c6] at H
        exact absurd H (by simp)
      ·rw [if_neg c5] at H
       have c5b0 : decide (x18_2 < (l0.length : Int)) = false := decide_eq_false c5
       clear c5
       obtain ⟨ji20,hji20⟩ : ∃ j_ : Int,(wrap64 ((l0.length : Int) - 1)) = j_ := ⟨_,rfl⟩
       replace H : (if 0 ≤ (ji20) then (if (ji20) < (x3_2.length : Int) then (some ((rd x3_2 (ji20)) == 0)) else (none)) else (none)) = some r := by first | (rw [hji20] at H;exact H) | (simp only [hji20] at H ⊢;exact H)
       have hji20w : (IntKind.i64.wrap ((l0.length : Int) - 1)) = ji20 := (i64_w _).trans hji20
       by_cases c21 : 0 ≤ (ji20)
       ·rw [if_pos c21] at H
        have c21b0 : decide (0 ≤ (ji20)) = true := decide_eq_true c21
        clear c21
        by_cases c22 : (ji20) < (x3_2.length : Int)
        ·rw [if_pos c22] at H
         have c22b0 : decide ((ji20) < (x3_2.length : Int)) = true := decide_eq_true c22
         clear c22
         obtain rfl := Option.some.inj H
         obtain ⟨Ao23,co23,eo23⟩ := Kd.R_slice HO_3.out
         subst eo23
         have p110 : 0 ≤ ((ji20) : Int) := of_decide_eq_true (by first | (with_reducible assumption) | assumption)
         have q110 : (ji20) < (x3_2.length : Int) := of_decide_eq_true (by first | (with_reducible assumption) | assumption)
         obtain ⟨ad110,e110,hx110_0⟩ := Kd.at_int (Kd.R_reads' HO_3.out).2.2 (ji20) p110 q110
         cases e110
         replace p110 := eq_true p110
         replace q110 := eq_true q110
         go_wp2
         go_ret
         exact ⟨by first | rfl | (simp [errW_none,errW_some] <;> rfl) | (simp only [← hji20];first | rfl | (simp [errW_none,errW_some] <;> rfl)) | (simp [*,errW_none,errW_some] <;> rfl),by repeat (first | (with_reducible first | exact HB.out | apply below_alloc | apply pw_below_drewN | apply below_drew1) | exact HB.out)⟩
        ·rw [if_neg c22] at H
         exact absurd H (by simp)
       ·rw [if_neg c21] at H
        exact absurd H (by simp)
def tree_told.f (k : Nat) (l0 : List (S52)) : Option ((List (S52)) × Bool) := (tree_Good.f k l0).bind fun t111 => (if t111 = true then (some (l0,true)) else (some (([] : List (S52)),false)))
theorem tree_told.mono : ∀ a0 k,LeO (tree_told.f k a0) (tree_told.f (k + 1) a0) := by
 intro a0 k
 unfold tree_told.f
 repeat' first
  |(with_reducible exact tree_Good.mono _ _)
  |(with_reducible exact LeO.refl _)
  |(with_reducible exact LeO.none _)
  |(with_reducible refine LeO.ite ?_ ?_)
  |(with_reducible refine LeO.bind ?_ (fun _ => ?_))
  | exact tree_Good.mono _ _
  | exact LeO.none _
  | refine LeO.ite ?_ ?_
  | refine LeO.bind ?_ (fun _ => ?_)
set_option maxHeartbeats 8000000 in
set_option maxRecDepth 100000 in
theorem tree_told.calls (k : Nat) (P0_ : Nat → Prop) (u9000_ : Value) (l0 : List (S52)) (r1 : List (S52)) (r2 : Bool) (w0 w : World) (hB : Below w0.heap.size w0 w) (ho0 : Kd.R k52 52 w w0.heap.size P0_ u9000_ l0) (h : tree_told.f k l0 = some (r1,r2)) (hG_ : Glob w) :
 Calls Tryd.prog 59 #[u9000_] w fun e w' => ∃ v0_ : Value,e = .returned (.tuple #[v0_,.bool r2]) ∧ Kd.R k52 52 w' w0.heap.size (fun k_ => (P0_ k_ ∨ w.heap.size ≤ k_)) v0_ r1 ∧ Below w0.heap.size w0 w' ∧ Kept w w' (fun k_ => P0_ k_) := by
 have HG_ := Aside0.mk hG_
 clear hG_
 have HO0 := Aside0.mk (show Kd.R k52 52 w w0.heap.size (fun k_ => (P0_ k_ ∨ w.heap.size ≤ k_)) u9000_ l0 from Kd.R_mono ho0 (fun k_ hk => (.inl hk)))
 have HK := Aside0.mk (Kept.refl w (fun k_ => P0_ k_))
 have HW0 := Aside0.mk hB.size
 have HB := Aside0.mk hB
 clear hB
 have H : ((tree_Good.f k l0).bind fun t111 => (if t111 = true then (some (l0,true)) else (some (([] : List (S52)),false)))) = some (r1,r2) := h
 clear h
 replace H := Option.bind_eq_some_iff.mp H
 obtain ⟨t111,A20,H⟩ := H
 replace H : (if t111 = true then (some (l0,true)) else (some (([] : List (S52)),false))) = some (r1,r2) := H
 have A2 := Aside0.mk A20
 clear A20
 by_cases c3 : t111 = true
 ·subst c3
  have H1 : (some (l0,true)) = some (r1,r2) := by rw [if_pos rfl] at H;exact H
  clear H
  have H := H1
  clear H1
  simp only [Option.some.injEq,Prod.mk.injEq] at H
  obtain ⟨rfl,rfl⟩ := H
  obtain ⟨Ao4,co4,eo4⟩ := Kd.R_slice HO0.out
  subst eo4
  go_enter Tryd.func59,Tryd.ntmps59
  go_wp2_with (first | ((with_reducible refine gate_callee (f := 36) rfl ?_);refine goesL_ (some 5) rfl rfl Tryd.func36 (by kernel_rfl) rfl #[.slice Ao4 l0.length co4] rfl (by (try simp only [List.map_toArray,List.map_cons,List.map_nil]);first | done | rfl | (simp only [List.length_drop,List.length_take];rfl)) ?_;(with_reducible refine (tree_Good.calls k _ _ l0 true _ ?side1 ?side2 A2.out ?sideG_).mono ?_);(case sideG_ => (first | (with_reducible exact HG_.out) | exact HG_.out.below (by repeat (first | (with_reducible first | exact HB.out | apply below_alloc | apply pw_below_drewN | apply below_drew1) | exact HB.out))));(case side1 => repeat (first | exact (Kd.R_reads' HO0.out).2.2 | (with_reducible refine Kd.C_alloc ?_ _) | (with_reducible refine Kd.C_drewN ?_ _) | (with_reducible refine Kd.C_drew ?_)));(case side2 => exact (Kd.R_reads' HO0.out).2.1);rintro e w5 ⟨rfl,hb⟩;refine ⟨_,rfl,?_⟩;have n0_ := Aside0.mk (Kd.R_below (by (with_reducible repeat (first | apply Kd.R_alloc | apply Kd.R_drewN | apply Kd.R_drew));exact HO0.out) hb);have n1_ := Aside0.mk (Kept.below (S := (fun k_ => P0_ k_)) (by repeat (first | (with_reducible first | exact HK.out | apply Kept.alloc | apply Kept.drewN | apply Kept.drew) | exact HK.out)) hb);have n2_ := Aside0.mk (below_step (by repeat (first | (with_reducible first | exact HB.out | apply below_alloc | apply pw_below_drewN | apply below_drew1) | exact HB.out)) hb);clear HO0;clear HK;clear HB;have HO0 := n0_;have HK := n1_;have HB := n2_;clear n0_ n1_ n2_;(try clear hb);(try clear hb2);(try clear hk);(try clear hi)))
  go_ret2
  exact ⟨_,by first | rfl | (simp [errW_none,errW_some] <;> rfl) | (simp [*,errW_none,errW_some] <;> rfl),by (with_reducible repeat (first | apply Kd.R_alloc | apply Kd.R_drewN | apply Kd.R_drew));exact HO0.out,by repeat (first | (with_reducible first | exact HB.out | apply below_alloc | apply pw_below_drewN | apply below_drew1) | exact HB.out),by repeat (first | (with_reducible first | exact HK.out | apply Kept.alloc | apply Kept.drewN | apply Kept.drew) | exact HK.out)⟩
 ·replace c3 := Bool.eq_false_iff.mpr c3
  subst c3
  have H1 : (some (([] : List (S52)),false)) = some (r1,r2) := by rw [if_neg (show ¬ (false = true) by decide)] at H;exact H
  clear H
  have H := H1
  clear H1
  simp only [Option.some.injEq,Prod.mk.injEq] at H
  obtain ⟨rfl,rfl⟩ := H
  obtain ⟨Ao6,co6,eo6⟩ := Kd.R_slice HO0.out
  subst eo6
  go_enter Tryd.func59,Tryd.ntmps59
  go_wp2_with (first | ((with_reducible refine gate_callee (f := 36) rfl ?_);refine goesL_ (some 5) rfl rfl Tryd.func36 (by kernel_rfl) rfl #[.slice Ao6 l0.length co6] rfl (by (try simp only [List.map_toArray,List.map_cons,List.map_nil]);first | done | rfl | (simp only [List.length_drop,List.length_take];rfl)) ?_;(with_reducible refine (tree_Good.calls k _ _ l0 false _ ?side1 ?side2 A2.out ?sideG_).mono ?_);(case sideG_ => (first | (with_reducible exact HG_.out) | exact HG_.out.below (by repeat (first | (with_reducible first | exact HB.out | apply below_alloc | apply pw_below_drewN | apply below_drew1) | exact HB.out))));(case side1 => repeat (first | exact (Kd.R_reads' HO0.out).2.2 | (with_reducible refine Kd.C_alloc ?_ _) | (with_reducible refine Kd.C_drewN ?_ _) | (with_reducible refine Kd.C_drew ?_)));(case side2 => exact (Kd.R_reads' HO0.out).2.1);rintro e w7 ⟨rfl,hb⟩;refine ⟨_,rfl,?_⟩;have n0_ := Aside0.mk (Kd.R_below (by (with_reducible repeat (first | apply Kd.R_alloc | apply Kd.R_drewN | apply Kd.R_drew));exact HO0.out) hb);have n1_ := Aside0.mk (Kept.below (S := (fun k_ => P0_ k_)) (by repeat (first | (with_reducible first | exact HK.out | apply Kept.alloc | apply Kept.drewN | apply Kept.drew) | exact HK.out)) hb);have n2_ := Aside0.mk (below_step (by repeat (first | (with_reducible first | exact HB.out | apply below_alloc | apply pw_below_drewN | apply below_drew1) | exact HB.out)) hb);clear HO0;clear HK;clear HB;have HO0 := n0_;have HK := n1_;have HB := n2_;clear n0_ n1_ n2_;(try clear hb);(try clear hb2);(try clear hk);(try clear hi)))
  go_ret2
  exact ⟨_,by first | rfl | (simp [errW_none,errW_some] <;> rfl) | (simp [*,errW_none,errW_some] <;> rfl),by first | exact Kd.R_nil _ _ _ _ _ | exact Kd.N_nil _ _ _ _ _ | exact Kd.V_nil _ _ _ _ _ | exact Kd.Q_nil _ _ _ _ _ | exact Kd.S_nil _ _ _ _ _,by repeat (first | (with_reducible first | exact HB.out | apply below_alloc | apply pw_below_drewN | apply below_drew1) | exact HB.out),by repeat (first | (with_reducible first | exact HK.out | apply Kept.alloc | apply Kept.drewN | apply Kept.drew) | exact HK.out)⟩
def tree_Lit.f (k : Nat) (a0 : ByteArray) (a1 : ByteArray) : Option ((List (S52)) × Bool) := (tree_told.f k (([(⟨1,0,0,0,a0,a1,0⟩ : S52)] : List (S52)))).bind fun bt115 => (some (bt115.1,bt115.2))
theorem tree_Lit.mono : ∀ a0 a1 k,LeO (tree_Lit.f k a0 a1) (tree_Lit.f (k + 1) a0 a1) := by
 intro a0 a1 k
 unfold tree_Lit.f
 repeat' first
  |(with_reducible exact tree_told.mono _ _)
  |(with_reducible exact LeO.refl _)
  |(with_reducible exact LeO.none _)
  |(with_reducible refine LeO.ite ?_ ?_)
  |(with_reducible refine LeO.bind ?_ (fun _ => ?_))
  | exact tree_told.mono _ _
  | exact LeO.none _
  | refine LeO.ite ?_ ?_
  | refine LeO.bind ?_ (fun _ => ?_)
set_option maxHeartbeats 8000000 in
set_option maxRecDepth 100000 in
theorem tree_Lit.calls (k : Nat) (a0 : ByteArray) (a1 : ByteArray) (r1 : List (S52)) (r2 : Bool) (w : World) (h : tree_Lit.f k a0 a1 = some (r1,r2)) (hG_ : Glob w) :
 Calls Tryd.prog 25 #[.string a0,.string a1] w fun e w' => ∃ v0_ : Value,e = .returned (.tuple #[v0_,.bool r2]) ∧ Kd.R k52 52 w' w.heap.size (fun _ => True) v0_ r1 ∧ Below w.heap.size w w' := by
 have HG_ := Aside0.mk hG_
 clear hG_
 have hu52 := Tryd.underlying52
 have HB := Aside0.mk (Below.refl w.heap.size w)
 have H : ((tree_told.f k (([(⟨1,0,0,0,a0,a1,0⟩ : S52)] : List (S52)))).bind fun bt115 => (some (bt115.1,bt115.2))) = some (r1,r2) := h
 clear h
 obtain ⟨y112,hy112⟩ : ∃ y_ : List (S52),y_ = (([(⟨1,0,0,0,a0,a1,0⟩ : S52)] : List (S52))) := ⟨_,rfl⟩
 replace H : ((tree_told.f k y112).bind fun bt115 => (some (bt115.1,bt115.2))) = some (r1,r2) := by first | (rw [hy112];with_reducible exact H) | (have H2_ := (Option.bind_some _ _).symm.trans H;rw [hy112];with_reducible exact H2_) | (have H2_ := (Option.bind_some _ _).symm.trans H;with_reducible exact H2_) | with_reducible exact H | (rw [hy112];exact H) | exact H
 have Ny112 := Aside0.mk hy112
 clear hy112
 replace H := Option.bind_eq_some_iff.mp H
 obtain ⟨⟨t115,t118⟩,A30,H⟩ := H
 replace H : (some (t115,t118)) = some (r1,r2) := H
 have A3 := Aside0.mk A30
 clear A30
 simp only [Option.some.injEq,Prod.mk.injEq] at H
 obtain ⟨rfl,rfl⟩ := H
 go_enter Tryd.func25,Tryd.ntmps25
 go_wp2_with (first | ((with_reducible refine gate_dst (N := 9) rfl ?_);refine Kd.R_lit k52 _ 52 ?hg (N := 9) ?hd (xs := ([(⟨1,0,0,0,a0,a1,0⟩ : S52)] : List (S52))) (inner := [.int .i64 1,.int .i64 0,.int .i64 0,.int .i64 0,.string a0,.string a1,.int .i64 0]) (ok := fun _ => True) (okp := fun _ => True) ?hr ?hp (fun _ hk => hk) trivial (Below.refl _ _) (Nat.le_refl _) (by simp) ?_;(case hd => rfl);(case hg => rfl);(case hr => first | (go_simp;done) | (go_simp;rfl));(case hp => exact (Reps.c7 (show Kd.M k52 _ _ _ (⟨1,0,0,0,a0,a1,0⟩ : S52) [.int .i64 1,.int .i64 0,.int .i64 0,.int .i64 0,.string a0,.string a1,.int .i64 0] from (k52_mkM _ _ _ (⟨1,0,0,0,a0,a1,0⟩ : S52) )) (Reps.none _ _)));intro v113 w4 ho5 hb hg_ hnew_;clear hg_ hnew_;(first | rw [← Ny112.out] at ho5 | (simp only [Int.reduceToNat] at ho5;rw [← Ny112.out] at ho5));have n0_ := Aside0.mk (Kd.R_lower ho5 (below_size (by repeat (first | (with_reducible first | exact HB.out | apply below_alloc | apply pw_below_drewN | apply below_drew1) | exact HB.out))));have n1_ := Aside0.mk (below_step (by repeat (first | (with_reducible first | exact HB.out | apply below_alloc | apply pw_below_drewN | apply below_drew1) | exact HB.out)) hb);clear HB;have HO114 := n0_;have HB := n1_;clear n0_ n1_;clear hb ho5;obtain ⟨Ao6,co6,eo6⟩ := Kd.R_slice HO114.out;subst eo6) | ((with_reducible refine gate_callee (f := 59) rfl ?_);refine goesL_ (some 10) rfl rfl Tryd.func59 (by kernel_rfl) rfl #[.slice Ao6 y112.length co6] rfl (by (try simp only [List.map_toArray,List.map_cons,List.map_nil]);first | done | rfl | (simp only [List.length_drop,List.length_take];rfl)) ?_;(with_reducible refine (tree_told.calls k (fun k_ => some k_ = (.slice Ao6 y112.length co6 : Value).ownBlock) (.slice Ao6 y112.length co6) y112 t115 t118 w _ ?side1 ?side2 A3.out ?sideG_).mono ?_);(case sideG_ => (first | (with_reducible exact HG_.out) | exact HG_.out.below (by repeat (first | (with_reducible first | exact HB.out | apply below_alloc | apply pw_below_drewN | apply below_drew1 | refine below_set ?_ (by first | assumption | exact Aside0.out (by assumption))) | exact HB.out))));(case side1 => repeat (first | (with_reducible first | exact HB.out | apply below_alloc | apply pw_below_drewN | apply below_drew1) | exact HB.out));(case side2 => exact Kd.R_tight rfl HO114.out);rintro e w7 ⟨v116,rfl,ho0,hb,hkp⟩;refine ⟨_,rfl,?_⟩;have n0_ := Aside0.mk (Kd.R_mono (ok' := fun k_ => True) ho0 (fun k_ hk_ => trivial));have n1_ := Aside0.mk (hb);clear HB;clear HO114;have HO117 := n0_;have HB := n1_;clear n0_ n1_;(try clear hb);(try clear hkp);(try clear ho0)))
 go_ret2
 exact ⟨_,by first | rfl | (simp [errW_none,errW_some] <;> rfl) | (simp [*,errW_none,errW_some] <;> rfl),by (with_reducible repeat (first | apply Kd.R_alloc | apply Kd.R_drewN | apply Kd.R_drew));exact HO117.out,by repeat (first | (with_reducible first | exact HB.out | apply below_alloc | apply pw_below_drewN | apply below_drew1) | exact HB.out)⟩
def tree_Ref.f (k : Nat) (a0 : ByteArray) : Option ((List (S52)) × Bool) := (tree_told.f k (([(⟨2,0,0,0,a0,(⟨#[]⟩ : ByteArray),0⟩ : S52)] : List (S52)))).bind fun bt122 => (some (bt122.1,bt122.2))
theorem tree_Ref.mono : ∀ a0 k,LeO (tree_Ref.f k a0) (tree_Ref.f (k + 1) a0) := by
 intro a0 k
 unfold tree_Ref.f
 repeat' first
  |(with_reducible exact tree_told.mono _ _)
  |(with_reducible exact LeO.refl _)
  |(with_reducible exact LeO.none _)
  |(with_reducible refine LeO.ite ?_ ?_)
  |(with_reducible refine LeO.bind ?_ (fun _ => ?_))
  | exact tree_told.mono _ _
  | exact LeO.none _
  | refine LeO.ite ?_ ?_
  | refine LeO.bind ?_ (fun _ => ?_)
set_option maxHeartbeats 8000000 in
set_option maxRecDepth 100000 in
theorem tree_Ref.calls (k : Nat) (a0 : ByteArray) (r1 : List (S52)) (r2 : Bool) (w : World) (h : tree_Ref.f k a0 = some (r1,r2)) (hG_ : Glob w) :
 Calls Tryd.prog 26 #[.string a0] w fun e w' => ∃ v0_ : Value,e = .returned (.tuple #[v0_,.bool r2]) ∧ Kd.R k52 52 w' w.heap.size (fun _ => True) v0_ r1 ∧ Below w.heap.size w w' := by
 have HG_ := Aside0.mk hG_
 clear hG_
 have hu52 := Tryd.underlying52
 have HB := Aside0.mk (Below.refl w.heap.size w)
 have H : ((tree_told.f k (([(⟨2,0,0,0,a0,(⟨#[]⟩ : ByteArray),0⟩ : S52)] : List (S52)))).bind fun bt122 => (some (bt122.1,bt122.2))) = some (r1,r2) := h
 clear h
 obtain ⟨y119,hy119⟩ : ∃ y_ : List (S52),y_ = (([(⟨2,0,0,0,a0,(⟨#[]⟩ : ByteArray),0⟩ : S52)] : List (S52))) := ⟨_,rfl⟩
 replace H : ((tree_told.f k y119).bind fun bt122 => (some (bt122.1,bt122.2))) = some (r1,r2) := by first | (rw [hy119];with_reducible exact H) | (have H2_ := (Option.bind_some _ _).symm.trans H;rw [hy119];with_reducible exact H2_) | (have H2_ := (Option.bind_some _ _).symm.trans H;with_reducible exact H2_) | with_reducible exact H | (rw [hy119];exact H) | exact H
 have Ny119 := Aside0.mk hy119
 clear hy119
 replace H := Option.bind_eq_some_iff.mp H
 obtain ⟨⟨t122,t125⟩,A20,H⟩ := H
 replace H : (some (t122,t125)) = some (r1,r2) := H
 have A2 := Aside0.mk A20
 clear A20
 simp only [Option.some.injEq,Prod.mk.injEq] at H
 obtain ⟨rfl,rfl⟩ := H
 go_enter Tryd.func26,Tryd.ntmps26
 go_wp2_with (first | ((with_reducible refine gate_dst (N := 6) rfl ?_);refine Kd.R_lit k52 _ 52 ?hg (N := 6) ?hd (xs := ([(⟨2,0,0,0,a0,(⟨#[]⟩ : ByteArray),0⟩ : S52)] : List (S52))) (inner := [.int .i64 2,.int .i64 0,.int .i64 0,.int .i64 0,.string a0,.string (⟨#[]⟩ : ByteArray),.int .i64 0]) (ok := fun _ => True) (okp := fun _ => True) ?hr ?hp (fun _ hk => hk) trivial (Below.refl _ _) (Nat.le_refl _) (by simp) ?_;(case hd => rfl);(case hg => rfl);(case hr => first | (go_simp;done) | (go_simp;rfl));(case hp => exact (Reps.c7 (show Kd.M k52 _ _ _ (⟨2,0,0,0,a0,(⟨#[]⟩ : ByteArray),0⟩ : S52) [.int .i64 2,.int .i64 0,.int .i64 0,.int .i64 0,.string a0,.string (⟨#[]⟩ : ByteArray),.int .i64 0] from (k52_mkM _ _ _ (⟨2,0,0,0,a0,(⟨#[]⟩ : ByteArray),0⟩ : S52) )) (Reps.none _ _)));intro v120 w3 ho4 hb hg_ hnew_;clear hg_ hnew_;(first | rw [← Ny119.out] at ho4 | (simp only [Int.reduceToNat] at ho4;rw [← Ny119.out] at ho4));have n0_ := Aside0.mk (Kd.R_lower ho4 (below_size (by repeat (first | (with_reducible first | exact HB.out | apply below_alloc | apply pw_below_drewN | apply below_drew1) | exact HB.out))));have n1_ := Aside0.mk (below_step (by repeat (first | (with_reducible first | exact HB.out | apply below_alloc | apply pw_below_drewN | apply below_drew1) | exact HB.out)) hb);clear HB;have HO121 := n0_;have HB := n1_;clear n0_ n1_;clear hb ho4;obtain ⟨Ao5,co5,eo5⟩ := Kd.R_slice HO121.out;subst eo5) | ((with_reducible refine gate_callee (f := 59) rfl ?_);refine goesL_ (some 7) rfl rfl Tryd.func59 (by kernel_rfl) rfl #[.slice Ao5 y119.length co5] rfl (by (try simp only [List.map_toArray,List.map_cons,List.map_nil]);first | done | rfl | (simp only [List.length_drop,List.length_take];rfl)) ?_;(with_reducible refine (tree_told.calls k (fun k_ => some k_ = (.slice Ao5 y119.length co5 : Value).ownBlock) (.slice Ao5 y119.length co5) y119 t122 t125 w _ ?side1 ?side2 A2.out ?sideG_).mono ?_);(case sideG_ => (first | (with_reducible exact HG_.out) | exact HG_.out.below (by repeat (first | (with_reducible first | exact HB.out | apply below_alloc | apply pw_below_drewN | apply below_drew1 | refine below_set ?_ (by first | assumption | exact Aside0.out (by assumption))) | exact HB.out))));(case side1 => repeat (first | (with_reducible first | exact HB.out | apply below_alloc | apply pw_below_drewN | apply below_drew1) | exact HB.out));(case side2 => exact Kd.R_tight rfl HO121.out);rintro e w6 ⟨v123,rfl,ho0,hb,hkp⟩;refine ⟨_,rfl,?_⟩;have n0_ := Aside0.mk (Kd.R_mono (ok' := fun k_ => True) ho0 (fun k_ hk_ => trivial));have n1_ := Aside0.mk (hb);clear HB;clear HO121;have HO124 := n0_;have HB := n1_;clear n0_ n1_;(try clear hb);(try clear hkp);(try clear ho0)))
 go_ret2
 exact ⟨_,by first | rfl | (simp [errW_none,errW_some] <;> rfl) | (simp [*,errW_none,errW_some] <;> rfl),by (with_reducible repeat (first | apply Kd.R_alloc | apply Kd.R_drewN | apply Kd.R_drew));exact HO124.out,by repeat (first | (with_reducible first | exact HB.out | apply below_alloc | apply pw_below_drewN | apply below_drew1) | exact HB.out)⟩
def tree_behind.f (l0 l1 : List S52) : Option (List S52) := behindF l0 l1
theorem tree_behind.calls (A0 : Option Addr) (c0 : Nat) (l0 : List (S52)) (A1 : Option Addr) (c1 : Nat) (l1 : List (S52)) (r : List S52) (w : World) (hr0 : Kd.C k52 w A0 l0.length l0) (hc0 : l0.length ≤ c0) (hr1 : Kd.C k52 w A1 l1.length l1) (hc1 : l1.length ≤ c1) (h : tree_behind.f l0 l1 = some r) :
 Calls Tryd.prog 60 #[.slice A0 l0.length c0,.slice A1 l1.length c1] w fun e w' => ∃ v0_ : Value,e = .returned (v0_) ∧ Kd.R k52 52 w' w.heap.size (fun _ => True) v0_ r ∧ Below w.heap.size w w' := behind_calls A0 c0 l0 A1 c1 l1 r w hr0 hc0 hr1 hc1 h
def tree_Join.j0 : Nat → Int → List (S52) → List (S52) → Bool → Option ((List (S52)) × Bool)
 | 0,_,_,_,_ => none
 | k + 1,x0,x1,x2,x24 => if x24 = true then (some (([] : List (S52)),false)) else ((tree_behind.f x1 x2).bind fun t128 => (if t128.length < 1954687338268 then ((tree_told.f k (t128 ++ [(⟨x0,wrap64 ((x1.length : Int) - 1),wrap64 ((t128.length : Int) - 1),0,(⟨#[]⟩ : ByteArray),(⟨#[]⟩ : ByteArray),0⟩ : S52)])).bind fun bt134 => (some (bt134.1,bt134.2))) else (none)))
def tree_Join.f (k : Nat) (a0 : Int) (l1 : List (S52)) (l2 : List (S52)) : Option ((List (S52)) × Bool) := if a0 < 3 then (tree_Join.j0 k a0 l1 l2 true) else (if a0 > 6 then (tree_Join.j0 k a0 l1 l2 true) else ((tree_Good.f k l1).bind fun t126 => (if t126 = true then ((tree_Good.f k l2).bind fun t127 => (tree_Join.j0 k a0 l1 l2 (!t127))) else (tree_Join.j0 k a0 l1 l2 true))))
theorem tree_Join.mono_l : ∀ k,(∀ y0 y1 y2 y3,LeO (tree_Join.j0 k y0 y1 y2 y3) (tree_Join.j0 (k + 1) y0 y1 y2 y3))
 | 0 => fun _ _ _ _ r h => by simp [tree_Join.j0] at h
 | k + 1 => by
  have ih0 := tree_Join.mono_l k
  ·intro y0 y1 y2 y3
   unfold tree_Join.j0
   repeat' first
   |(with_reducible exact ih0 _ _ _ _)
   |(with_reducible exact tree_Good.mono _ _)
   |(with_reducible exact tree_told.mono _ _)
   |(with_reducible exact LeO.refl _)
   |(with_reducible exact LeO.none _)
   |(with_reducible refine LeO.ite ?_ ?_)
   |(with_reducible refine LeO.bind ?_ (fun _ => ?_))
   | exact ih0 _ _ _ _
   | exact tree_Good.mono _ _
   | exact tree_told.mono _ _
   | exact LeO.none _
   | refine LeO.ite ?_ ?_
   | refine LeO.bind ?_ (fun _ => ?_)
theorem tree_Join.mono : ∀ a0 a1 a2 k,LeO (tree_Join.f k a0 a1 a2) (tree_Join.f (k + 1) a0 a1 a2) := by
 intro a0 a1 a2 k
 have ih0 := tree_Join.mono_l k
 unfold tree_Join.f
 repeat' first
  |(with_reducible exact ih0 _ _ _ _)
  |(with_reducible exact tree_Good.mono _ _)
  |(with_reducible exact tree_told.mono _ _)
  |(with_reducible exact LeO.refl _)
  |(with_reducible exact LeO.none _)
  |(with_reducible refine LeO.ite ?_ ?_)
  |(with_reducible refine LeO.bind ?_ (fun _ => ?_))
  | exact ih0 _ _ _ _
  | exact tree_Good.mono _ _
  | exact tree_told.mono _ _
  | exact LeO.none _
  | refine LeO.ite ?_ ?_
  | refine LeO.bind ?_ (fun _ => ?_)
set_option maxHeartbeats 8000000 in
set_option maxRecDepth 100000 in
theorem tree_Join.calls (k : Nat) (a0 : Int) (A1 : Option Addr) (c1 : Nat) (l1 : List (S52)) (A2 : Option Addr) (c2 : Nat) (l2 : List (S52)) (r1 : List (S52)) (r2 : Bool) (w : World) (hr1 : Kd.C k52 w A1 l1.length l1) (hc1 : l1.length ≤ c1) (hr2 : Kd.C k52 w A2 l2.length l2) (hc2 : l2.length ≤ c2) (h : tree_Join.f k a0 l1 l2 = some (r1,r2)) (hG_ : Glob w) :
 Calls Tryd.prog 27 #[.int .i64 a0,.slice A1 l1.length c1,.slice A2 l2.length c2] w fun e w' => ∃ v0_ : Value,e = .returned (.tuple #[v0_,.bool r2]) ∧ Kd.R k52 52 w' w.heap.size (fun _ => True) v0_ r1 ∧ Below w.heap.size w w' := by
 have HG_ := Aside0.mk hG_
 clear hG_
 have hu52 := Tryd.underlying52
 have HR1 := Aside0.mk hr1
 have HC1 := Aside0.mk hc1
 clear hr1 hc1
 have HR2 := Aside0.mk hr2
 have HC2 := Aside0.mk hc2
 clear hr2 hc2
 have HB := Aside0.mk (Below.refl w.heap.size w)
 have H : (if a0 < 3 then (tree_Join.j0 k a0 l1 l2 true) else (if a0 > 6 then (tree_Join.j0 k a0 l1 l2 true) else ((tree_Good.f k l1).bind fun t126 => (if t126 = true then ((tree_Good.f k l2).bind fun t127 => (tree_Join.j0 k a0 l1 l2 (!t127))) else (tree_Join.j0 k a0 l1 l2 true))))) = some (r1,r2) := h
 clear h
 have HC4 := Aside0.mk H
 clear H
 go_enter Tryd.func27,Tryd.ntmps27
 go_upto_region 1 with (fail)
 go_cut [24] (fun v24 wc => ∃ (kq : Nat) (x24_3 : Bool),v24 = .bool x24_3 ∧ Aside0 (tree_Join.j0 kq a0 l1 l2 x24_3 = some (r1,r2)) ∧ Aside0 (kq ≤ k) ∧ Aside0 (Below w.heap.size w wc))
 case first =>
  have H := HC4.out
  clear HC4
  by_cases c5 : a0 < 3
  ·rw [if_pos c5] at H
   have c5b0 : decide (a0 < 3) = true := decide_eq_true c5
   clear c5
   (first | rw [c5b0] | (simp only [i64_w,i32_w];rw [c5b0]) | skip)
   have H' := Aside0.mk H
   clear H
   go_wp2
   go_meet
   case rel => exact ⟨_,(true),(by first | rfl | (simp;done) | (simp [*];done)),H',⟨by first | omega | exact Nat.le_refl _⟩,⟨by repeat (first | (with_reducible first | exact HB.out | apply below_alloc | apply pw_below_drewN | apply below_drew1) | exact HB.out)⟩⟩
  ·rw [if_neg c5] at H
   have c5b0 : decide (a0 < 3) = false := decide_eq_false c5
   clear c5
   (first | rw [c5b0] | (simp only [i64_w,i32_w];rw [c5b0]) | skip)
   by_cases c6 : a0 > 6
   ·rw [if_pos c6] at H
    have c6b0 : decide (6 < a0) = true := decide_eq_true c6
    clear c6
    have H' := Aside0.mk H
    clear H
    go_wp2
    go_meet
    case rel => exact ⟨_,(true),(by first | rfl | (simp;done) | (simp [*];done)),H',⟨by first | omega | exact Nat.le_refl _⟩,⟨by repeat (first | (with_reducible first | exact HB.out | apply below_alloc | apply pw_below_drewN | apply below_drew1) | exact HB.out)⟩⟩
   ·rw [if_neg c6] at H
    have c6b0 : decide (6 < a0) = false := decide_eq_false c6
    clear c6
    replace H := Option.bind_eq_some_iff.mp H
    obtain ⟨t126,A70,H⟩ := H
    replace H : (if t126 = true then ((tree_Good.f k l2).bind fun t127 => (tree_Join.j0 k a0 l1 l2 (!t127))) else (tree_Join.j0 k a0 l1 l2 true)) = some (r1,r2) := H
    have A7 := Aside0.mk A70
    clear A70
    by_cases c8 : t126 = true
    ·subst c8
     have H1 : ((tree_Good.f k l2).bind fun t127 => (tree_Join.j0 k a0 l1 l2 (!t127))) = some (r1,r2) := by rw [if_pos rfl] at H;exact H
     clear H
     have H := H1
     clear H1
     replace H := Option.bind_eq_some_iff.mp H
     obtain ⟨t127,A90,H⟩ := H
     replace H : (tree_Join.j0 k a0 l1 l2 (!t127)) = some (r1,r2) := H
     have A9 := Aside0.mk A90
     clear A90
     have H' := Aside0.mk H
     clear H
     go_wp2_with (first | (go_at_call 36;(with_reducible refine (tree_Good.calls k _ _ l1 true _ ?side1 ?side2 A7.out ?sideG_).mono ?_);(case sideG_ => (first | (with_reducible exact HG_.out) | exact HG_.out.below (by repeat (first | (with_reducible first | exact HB.out | apply below_alloc | apply pw_below_drewN | apply below_drew1) | exact HB.out))));(case side1 => repeat (first | exact (Kd.C_below HR1.out HB.out) | (with_reducible refine Kd.C_alloc ?_ _) | (with_reducible refine Kd.C_drewN ?_ _) | (with_reducible refine Kd.C_drew ?_)));(case side2 => exact HC1.out);rintro e w10 ⟨rfl,hb⟩;have n0_ := Aside0.mk (below_step (by repeat (first | (with_reducible first | exact HB.out | apply below_alloc | apply pw_below_drewN | apply below_drew1) | exact HB.out)) hb);clear HB;have HB := n0_;clear n0_;(try clear hb);(try clear hb2);(try clear hk);(try clear hi)) | (go_at_call 36;(with_reducible refine (tree_Good.calls k _ _ l2 t127 _ ?side1 ?side2 A9.out ?sideG_).mono ?_);(case sideG_ => (first | (with_reducible exact HG_.out) | exact HG_.out.below (by repeat (first | (with_reducible first | exact HB.out | apply below_alloc | apply pw_below_drewN | apply below_drew1) | exact HB.out))));(case side1 => repeat (first | exact (Kd.C_below HR2.out HB.out) | (with_reducible refine Kd.C_alloc ?_ _) | (with_reducible refine Kd.C_drewN ?_ _) | (with_reducible refine Kd.C_drew ?_)));(case side2 => exact HC2.out);rintro e w11 ⟨rfl,hb⟩;have n0_ := Aside0.mk (below_step (by repeat (first | (with_reducible first | exact HB.out | apply below_alloc | apply pw_below_drewN | apply below_drew1) | exact HB.out)) hb);clear HB;have HB := n0_;clear n0_;(try clear hb);(try clear hb2);(try clear hk);(try clear hi)))
     go_meet
     case rel => exact ⟨_,(!t127),(by first | rfl | (simp;done) | (simp [*];done)),H',⟨by first | omega | exact Nat.le_refl _⟩,⟨by repeat (first | (with_reducible first | exact HB.out | apply below_alloc | apply pw_below_drewN | apply below_drew1) | exact HB.out)⟩⟩
    ·replace c8 := Bool.eq_false_iff.mpr c8
     subst c8
     have H1 : (tree_Join.j0 k a0 l1 l2 true) = some (r1,r2) := by rw [if_neg (show ¬ (false = true) by decide)] at H;exact H
     clear H
     have H := H1
     clear H1
     have H' := Aside0.mk H
     clear H
     go_wp2_with (first | (go_at_call 36;(with_reducible refine (tree_Good.calls k _ _ l1 false _ ?side1 ?side2 A7.out ?sideG_).mono ?_);(case sideG_ => (first | (with_reducible exact HG_.out) | exact HG_.out.below (by repeat (first | (with_reducible first | exact HB.out | apply below_alloc | apply pw_below_drewN | apply below_drew1) | exact HB.out))));(case side1 => repeat (first | exact (Kd.C_below HR1.out HB.out) | (with_reducible refine Kd.C_alloc ?_ _) | (with_reducible refine Kd.C_drewN ?_ _) | (with_reducible refine Kd.C_drew ?_)));(case side2 => exact HC1.out);rintro e w12 ⟨rfl,hb⟩;have n0_ := Aside0.mk (below_step (by repeat (first | (with_reducible first | exact HB.out | apply below_alloc | apply pw_below_drewN | apply below_drew1) | exact HB.out)) hb);clear HB;have HB := n0_;clear n0_;(try clear hb);(try clear hb2);(try clear hk);(try clear hi)))
     go_meet
     case rel => exact ⟨_,(true),(by first | rfl | (simp;done) | (simp [*];done)),H',⟨by first | omega | exact Nat.le_refl _⟩,⟨by repeat (first | (with_reducible first | exact HB.out | apply below_alloc | apply pw_below_drewN | apply below_drew1) | exact HB.out)⟩⟩
 case rest =>
  clear HC4
  try clear c1
  try clear c2
  try clear p2
  try clear c5
  try clear c5b0
  try clear c6
  try clear c6b0
  try clear c8
  obtain ⟨kq,x24_3,rfl,HA,HJ3,HB⟩ := hcut
  cases kq with
  | zero => exact absurd HA.out (by simp [tree_Join.j0])
  | succ kj3 =>
   have H := HA.out
   clear HA
   simp only [tree_Join.j0] at H
   by_cases c13 : x24_3 = true
   ·subst c13
    have H1 : (some (([] : List (S52)),false)) = some (r1,r2) := by rw [if_pos rfl] at H;exact H
    clear H
    have H := H1
    clear H1
    simp only [Option.some.injEq,Prod.mk.injEq] at H
    obtain ⟨rfl,rfl⟩ := H
    go_wp2
    go_ret2
    exact ⟨_,by first | rfl | (simp [errW_none,errW_some] <;> rfl) | (simp [*,errW_none,errW_some] <;> rfl),by first | exact Kd.R_nil _ _ _ _ _ | exact Kd.N_nil _ _ _ _ _ | exact Kd.V_nil _ _ _ _ _ | exact Kd.Q_nil _ _ _ _ _ | exact Kd.S_nil _ _ _ _ _,by repeat (first | (with_reducible first | exact HB.out | apply below_alloc | apply pw_below_drewN | apply below_drew1) | exact HB.out)⟩
   ·replace c13 := Bool.eq_false_iff.mpr c13
    subst c13
    have H1 : ((tree_behind.f l1 l2).bind fun t128 => (if t128.length < 1954687338268 then ((tree_told.f kj3 (t128 ++ [(⟨a0,wrap64 ((l1.length : Int) - 1),wrap64 ((t128.length : Int) - 1),0,(⟨#[]⟩ : ByteArray),(⟨#[]⟩ : ByteArray),0⟩ : S52)])).bind fun bt134 => (some (bt134.1,bt134.2))) else (none))) = some (r1,r2) := by rw [if_neg (show ¬ (false = true) by decide)] at H;exact H
    clear H
    have H := H1
    clear H1
    replace H := Option.bind_eq_some_iff.mp H
    obtain ⟨t128,A140,H⟩ := H
    replace H : (if t128.length < 1954687338268 then ((tree_told.f kj3 (t128 ++ [(⟨a0,wrap64 ((l1.length : Int) - 1),wrap64 ((t128.length : Int) - 1),0,(⟨#[]⟩ : ByteArray),(⟨#[]⟩ : ByteArray),0⟩ : S52)])).bind fun bt134 => (some (bt134.1,bt134.2))) else (none)) = some (r1,r2) := H
    have A14 := Aside0.mk A140
    clear A140
    by_cases c15 : t128.length < 1954687338268
    ·rw [if_pos c15] at H
     have LMc15 := Aside0.mk c15
     clear c15
     obtain ⟨y131,hy131⟩ : ∃ y_ : List (S52),y_ = (t128 ++ [(⟨a0,wrap64 ((l1.length : Int) - 1),wrap64 ((t128.length : Int) - 1),0,(⟨#[]⟩ : ByteArray),(⟨#[]⟩ : ByteArray),0⟩ : S52)]) := ⟨_,rfl⟩
     replace H : ((tree_told.f kj3 y131).bind fun bt134 => (some (bt134.1,bt134.2))) = some (r1,r2) := by first | (rw [hy131];with_reducible exact H) | (have H2_ := (Option.bind_some _ _).symm.trans H;rw [hy131];with_reducible exact H2_) | (have H2_ := (Option.bind_some _ _).symm.trans H;with_reducible exact H2_) | with_reducible exact H | (rw [hy131];exact H) | exact H
     have Ny131 := Aside0.mk hy131
     clear hy131
     replace H := Option.bind_eq_some_iff.mp H
     obtain ⟨⟨t134,t137⟩,A160,H⟩ := H
     replace H : (some (t134,t137)) = some (r1,r2) := H
     have A16 := Aside0.mk A160
     clear A160
     simp only [Option.some.injEq,Prod.mk.injEq] at H
     obtain ⟨rfl,rfl⟩ := H
     go_wp2_with (first | ((with_reducible refine gate_callee (f := 60) rfl ?_);refine goesL_ (some 27) rfl rfl Tryd.func60 (by kernel_rfl) rfl #[.slice A1 l1.length c1,.slice A2 l2.length c2] rfl (by (try simp only [List.map_toArray,List.map_cons,List.map_nil]);first | done | rfl | (simp only [List.length_drop,List.length_take];rfl)) ?_;(with_reducible refine (tree_behind.calls _ _ l1 _ _ l2 t128 _ ?side1 ?side2 ?side3 ?side4 A14.out).mono ?_);(case side1 => repeat (first | exact (Kd.C_below HR1.out HB.out) | (with_reducible refine Kd.C_alloc ?_ _) | (with_reducible refine Kd.C_drewN ?_ _) | (with_reducible refine Kd.C_drew ?_)));(case side2 => exact HC1.out);(case side3 => repeat (first | exact (Kd.C_below HR2.out HB.out) | (with_reducible refine Kd.C_alloc ?_ _) | (with_reducible refine Kd.C_drewN ?_ _) | (with_reducible refine Kd.C_drew ?_)));(case side4 => exact HC2.out);rintro e w17 ⟨v129,rfl,ho0,hb⟩;refine ⟨_,rfl,?_⟩;have n0_ := Aside0.mk (Kd.R_lower ho0 (below_size (by repeat (first | (with_reducible first | exact HB.out | apply below_alloc | apply pw_below_drewN | apply below_drew1) | exact HB.out))));have n1_ := Aside0.mk (below_step (by repeat (first | (with_reducible first | exact HB.out | apply below_alloc | apply pw_below_drewN | apply below_drew1) | exact HB.out)) hb);clear HB;have HO130 := n0_;have HB := n1_;clear n0_ n1_;(try clear hb);(try clear hb2);(try clear hk);(try clear hi);(try clear ho0);obtain ⟨Ao18,co18,eo18⟩ := Kd.R_slice HO130.out;subst eo18) | ((with_reducible refine gate_builtin (b := .append) (xs := #[.tmp 28,.tmp 37]) rfl ?_);at_builtin;refine Kd.R_append k52 (w0 := w) w.heap.size rfl (.tmp 28) (.tmp 37) 39 52 (.agg #[(.int .i64 0),(.int .i64 0),(.int .i64 0),(.int .i64 0),(.string ⟨#[]⟩),(.string ⟨#[]⟩),(.int .i64 0)]) 72 rfl Tryd.underlying39 info52 rfl (by decide) (by omega) (.slice Ao18 t128.length co18) t128 (⟨a0,wrap64 ((l1.length : Int) - 1),wrap64 ((t128.length : Int) - 1),0,(⟨#[]⟩ : ByteArray),(⟨#[]⟩ : ByteArray),0⟩ : S52) [.int .i64 a0,.int .i64 (wrap64 ((l1.length : Int) - 1)),.int .i64 (wrap64 ((t128.length : Int) - 1)),.int .i64 0,.string (⟨#[]⟩ : ByteArray),.string (⟨#[]⟩ : ByteArray),.int .i64 0] (fun _ => True) (fun _ => False) rfl rfl ?aP (fun _ hk => hk.elim) ?aF ?aO ?aB ?aS ?aL ?_;(case aP => exact k52_mkM _ _ _ (⟨a0,wrap64 ((l1.length : Int) - 1),wrap64 ((t128.length : Int) - 1),0,(⟨#[]⟩ : ByteArray),(⟨#[]⟩ : ByteArray),0⟩ : S52));(case aB => exact (by repeat (first | (with_reducible first | exact HB.out | apply below_alloc | apply pw_below_drewN | apply below_drew1) | exact HB.out)));(case aF => exact (fun _ _ => trivial));(case aO => exact (by (with_reducible repeat (first | apply Kd.R_alloc | apply Kd.R_drewN | apply Kd.R_drew));exact HO130.out));(case aS => exact (below_size (by repeat (first | (with_reducible first | exact HB.out | apply below_alloc | apply pw_below_drewN | apply below_drew1) | exact HB.out))));(case aL => have := LMc15.out;omega);intro v132 w19 ho hb hg hat;rw [← Ny131.out] at ho;have n0_ := Aside0.mk (hb);have n1_ := Aside0.mk (ho);clear HB;clear HO130;have HB := n0_;have HO133 := n1_;clear n0_ n1_;clear ho hb hg hat;obtain ⟨Ao20,co20,eo20⟩ := Kd.R_slice HO133.out;subst eo20) | ((with_reducible refine gate_callee (f := 59) rfl ?_);refine goesL_ (some 39) rfl rfl Tryd.func59 (by kernel_rfl) rfl #[.slice Ao20 y131.length co20] rfl (by (try simp only [List.map_toArray,List.map_cons,List.map_nil]);first | done | rfl | (simp only [List.length_drop,List.length_take];rfl)) ?_;(with_reducible refine (tree_told.calls kj3 (fun k_ => some k_ = (.slice Ao20 y131.length co20 : Value).ownBlock) (.slice Ao20 y131.length co20) y131 t134 t137 w _ ?side1 ?side2 A16.out ?sideG_).mono ?_);(case sideG_ => (first | (with_reducible exact HG_.out) | exact HG_.out.below (by repeat (first | (with_reducible first | exact HB.out | apply below_alloc | apply pw_below_drewN | apply below_drew1 | refine below_set ?_ (by first | assumption | exact Aside0.out (by assumption))) | exact HB.out))));(case side1 => repeat (first | (with_reducible first | exact HB.out | apply below_alloc | apply pw_below_drewN | apply below_drew1) | exact HB.out));(case side2 => exact Kd.R_tight rfl HO133.out);rintro e w21 ⟨v135,rfl,ho0,hb,hkp⟩;refine ⟨_,rfl,?_⟩;have n0_ := Aside0.mk (Kd.R_mono (ok' := fun k_ => True) ho0 (fun k_ hk_ => trivial));have n1_ := Aside0.mk (hb);clear HB;clear HO133;have HO136 := n0_;have HB := n1_;clear n0_ n1_;(try clear hb);(try clear hkp);(try clear ho0)))
     go_ret2
     exact ⟨_,by first | rfl | (simp [errW_none,errW_some] <;> rfl) | (simp [*,errW_none,errW_some] <;> rfl),by (with_reducible repeat (first | apply Kd.R_alloc | apply Kd.R_drewN | apply Kd.R_drew));exact HO136.out,by repeat (first | (with_reducible first | exact HB.out | apply below_alloc | apply pw_below_drewN | apply below_drew1) | exact HB.out)⟩
    ·rw [if_neg c15] at H
     exact absurd H (by simp)
end Go.Proofs.YtcajdkncohcaeaaDoor.GTree
