import Derived.Test.YtcajdkncohcaeaaDoorVTrI
import Derived.Test.YtcajdkncohcaeaaDoorVTrK
import Derived.Test.YtcajdkncohcaeaaDoorVGTree0
import Derived.Test.YtcajdkncohcaeaaDoorVGTree2
import Derived.Test.YtcajdkncohcaeaaDoorVGTree3
namespace Go.Proofs.YtcajdkncohcaeaaDoor.GTree
open Go.RowKit Go.Proofs.YtcajdkncohcaeaaDoorW.PrintWords Go.Proofs.YtcajdkncohcaeaaDoorW.PrintLast Go.Proofs.YtcajdkncohcaeaaDoorW.PrintMore
attribute [local go_sem] max2_int min2_int max_two min_two max_three min_three max_four min_four   -- for this text's walks alone
set_option linter.unusedVariables false
set_option linter.unusedSimpArgs false
mutual
def tree_Deep.l0 : Nat → List (S52) → List Int → List (S52) → Int → Int → Option (Int)
  | 0, _, _, _, _, _ => none
  | k + 1, x0, x3, x12, x13, x14 => if x14 < x13 then (if 0 ≤ x14 then (if x14 < (x12.length : Int) then (if x14 < (x3.length : Int) then ((some (x3.set (x14 : Int).toNat 1 : List Int)).bind fun y168 => (if ((rd_T52 x12 x14).f0) = 1 then (tree_Deep.j1 k x0 y168 x14 x12 x13 x14 ((rd_T52 x12 x14).f0) (((rd_T52 x12 x14).f0) == 1) ((rd_T52 x12 x14).f0) ((rd_T52 x12 x14).f1) ((rd_T52 x12 x14).f2) ((rd_T52 x12 x14).f3) ((rd_T52 x12 x14).f4) ((rd_T52 x12 x14).f5) ((rd_T52 x12 x14).f6)) else (tree_Deep.j1 k x0 y168 x14 x12 x13 x14 ((rd_T52 x12 x14).f0) (((rd_T52 x12 x14).f0) == 2) ((rd_T52 x12 x14).f0) ((rd_T52 x12 x14).f1) ((rd_T52 x12 x14).f2) ((rd_T52 x12 x14).f3) ((rd_T52 x12 x14).f4) ((rd_T52 x12 x14).f5) ((rd_T52 x12 x14).f6)))) else (none)) else (none)) else (none)) else (if 0 ≤ (wrap64 ((x0.length : Int) - 1)) then (if (wrap64 ((x0.length : Int) - 1)) < (x3.length : Int) then (some (rd x3 (wrap64 ((x0.length : Int) - 1)))) else (none)) else (none))
def tree_Deep.j1 : Nat → List (S52) → List Int → Int → List (S52) → Int → Int → Int → Bool → Int → Int → Int → Int → ByteArray → ByteArray → Int → Option (Int)
  | 0, _, _, _, _, _, _, _, _, _, _, _, _, _, _, _ => none
  | k + 1, x0, x3, x4, x12, x13, x14, x23, x39, x168000, x168001, x168002, x168003, x168004, x168005, x168006 => if x39 = true then (tree_Deep.l0 k x0 x3 x12 x13 (wrap64 (x14 + 1))) else (if x23 = 7 then (if 0 ≤ x168001 then (if x168001 < (x3.length : Int) then (if 0 ≤ x4 then (if x4 < (x3.length : Int) then (tree_Deep.l0 k x0 (x3.set (x4 : Int).toNat (wrap64 (1 + (rd x3 x168001)))) x12 x13 (wrap64 (x14 + 1))) else (none)) else (none)) else (none)) else (none)) else (if x23 = 8 then (if 0 ≤ x168001 then (if x168001 < (x3.length : Int) then (if 0 ≤ x4 then (if x4 < (x3.length : Int) then (tree_Deep.l0 k x0 (x3.set (x4 : Int).toNat (wrap64 (1 + (rd x3 x168001)))) x12 x13 (wrap64 (x14 + 1))) else (none)) else (none)) else (none)) else (none)) else (if 0 ≤ x168001 then (if x168001 < (x3.length : Int) then (if 0 ≤ x168002 then (if x168002 < (x3.length : Int) then (if 0 ≤ x4 then (if x4 < (x3.length : Int) then (tree_Deep.l0 k x0 (x3.set (x4 : Int).toNat (wrap64 (1 + (mx (rd x3 x168001) (rd x3 x168002))))) x12 x13 (wrap64 (x14 + 1))) else (none)) else (none)) else (none)) else (none)) else (none)) else (none))))
end
def tree_Deep.f (k : Nat) (l0 : List (S52)) : Option (Int) := (tree_Good.f k l0).bind fun t161 => (if t161 = true then (if 0 ≤ (l0.length : Int) then (if ((l0.length : Int) : Int).toNat ≤ 35184372088832 then (tree_Deep.l0 k l0 (List.replicate ((l0.length : Int) : Int).toNat 0) l0 (l0.length : Int) 0) else (none)) else (none)) else (some 0))
theorem tree_Deep.mono_l : ∀ k, (∀ y0 y1 y2 y3 y4, LeO (tree_Deep.l0 k y0 y1 y2 y3 y4) (tree_Deep.l0 (k + 1) y0 y1 y2 y3 y4)) ∧ (∀ y0 y1 y2 y3 y4 y5 y6 y7 y8 y9 y10 y11 y12 y13 y14, LeO (tree_Deep.j1 k y0 y1 y2 y3 y4 y5 y6 y7 y8 y9 y10 y11 y12 y13 y14) (tree_Deep.j1 (k + 1) y0 y1 y2 y3 y4 y5 y6 y7 y8 y9 y10 y11 y12 y13 y14))
  | 0 => ⟨fun _ _ _ _ _ r h => by simp [tree_Deep.l0] at h, fun _ _ _ _ _ _ _ _ _ _ _ _ _ _ _ r h => by simp [tree_Deep.j1] at h⟩
  | k + 1 => by
    obtain ⟨ih0, ih1⟩ := tree_Deep.mono_l k
    refine ⟨?_, ?_⟩
    · intro y0 y1 y2 y3 y4
      unfold tree_Deep.l0
      repeat' first
      | (with_reducible exact ih0 _ _ _ _ _)
      | (with_reducible exact ih1 _ _ _ _ _ _ _ _ _ _ _ _ _ _ _)
      | (with_reducible exact tree_Good.mono _ _)
      | (with_reducible exact LeO.refl _)
      | (with_reducible exact LeO.none _)
      | (with_reducible refine LeO.ite ?_ ?_)
      | (with_reducible refine LeO.bind ?_ (fun _ => ?_))
      | exact ih0 _ _ _ _ _
      | exact ih1 _ _ _ _ _ _ _ _ _ _ _ _ _ _ _
      | exact tree_Good.mono _ _
      | exact LeO.none _
      | refine LeO.ite ?_ ?_
      | refine LeO.bind ?_ (fun _ => ?_)
    · intro y0 y1 y2 y3 y4 y5 y6 y7 y8 y9 y10 y11 y12 y13 y14
      unfold tree_Deep.j1
      repeat' first
      | (with_reducible exact ih0 _ _ _ _ _)
      | (with_reducible exact ih1 _ _ _ _ _ _ _ _ _ _ _ _ _ _ _)
      | (with_reducible exact tree_Good.mono _ _)
      | (with_reducible exact LeO.refl _)
      | (with_reducible exact LeO.none _)
      | (with_reducible refine LeO.ite ?_ ?_)
      | (with_reducible refine LeO.bind ?_ (fun _ => ?_))
      | exact ih0 _ _ _ _ _
      | exact ih1 _ _ _ _ _ _ _ _ _ _ _ _ _ _ _
      | exact tree_Good.mono _ _
      | exact LeO.none _
      | refine LeO.ite ?_ ?_
      | refine LeO.bind ?_ (fun _ => ?_)
theorem tree_Deep.mono : ∀ a0 k, LeO (tree_Deep.f k a0) (tree_Deep.f (k + 1) a0) := by
  intro a0 k
  obtain ⟨ih0, ih1⟩ := tree_Deep.mono_l k
  unfold tree_Deep.f
  repeat' first
      | (with_reducible exact ih0 _ _ _ _ _)
      | (with_reducible exact ih1 _ _ _ _ _ _ _ _ _ _ _ _ _ _ _)
      | (with_reducible exact tree_Good.mono _ _)
      | (with_reducible exact LeO.refl _)
      | (with_reducible exact LeO.none _)
      | (with_reducible refine LeO.ite ?_ ?_)
      | (with_reducible refine LeO.bind ?_ (fun _ => ?_))
      | exact ih0 _ _ _ _ _
      | exact ih1 _ _ _ _ _ _ _ _ _ _ _ _ _ _ _
      | exact tree_Good.mono _ _
      | exact LeO.none _
      | refine LeO.ite ?_ ?_
      | refine LeO.bind ?_ (fun _ => ?_)
def tree_Deep.T9 : Bool × List (List Nat × List Nat) := (true, [([], []), ([], []), ([], []), ([], []), ([3], [3]), ([2, 4], [2, 4]), ([5], [5]), ([], []), ([], []), ([8], [8]), ([7, 9], [7, 9]), ([10], [10]), ([6, 11], [6, 11]), ([12], [12]), ([0, 1, 0, 1, 2, 3, 4, 5, 6, 7, 8, 9, 10, 11, 12, 13], [0, 1]), ([14, 13, 0, 1, 2, 3, 4, 5, 6, 7, 8, 9, 10, 11, 12, 13], [13, 14])])
def tree_Deep.B9 : List Nat := [0, 0, 0, 0, 8, 28, 60, 0, 0, 256, 896, 1920, 4092, 8188, 16383, 32767]
theorem tree_Deep.tab9 : rtab .any (opsOf Tryd.f37 9) = tree_Deep.T9 := by kernel_rfl
theorem tree_Deep.bits9 : waitsOk tree_Deep.T9.2 tree_Deep.B9 = true := by kernel_rfl
set_option maxHeartbeats 8000000 in
set_option maxRecDepth 100000 in
theorem tree_Deep.calls (k : Nat) (A0 : Option Addr) (c0 : Nat) (l0 : List (S52)) (r : Int) (w : World) (hr0 : Kd.C k52 w A0 l0.length l0) (hc0 : l0.length ≤ c0) (h : tree_Deep.f k l0 = some r) (hG_ : Glob w) :
    Calls Tryd.prog 37 #[.slice A0 l0.length c0] w fun e w' => e = .returned (.int .i64 r) ∧ Below w.heap.size w w' := by
  have HG_ := Aside0.mk hG_
  clear hG_
  have hu52 := Tryd.underlying52
  have HR0 := Aside0.mk hr0
  have HC0 := Aside0.mk hc0
  clear hr0 hc0
  have HB := Aside0.mk (Below.refl w.heap.size w)
  have H : ((tree_Good.f k l0).bind fun t161 => (if t161 = true then (if 0 ≤ (l0.length : Int) then (if ((l0.length : Int) : Int).toNat ≤ 35184372088832 then (tree_Deep.l0 k l0 (List.replicate ((l0.length : Int) : Int).toNat 0) l0 (l0.length : Int) 0) else (none)) else (none)) else (some 0))) = some r := h
  clear h
  replace H := Option.bind_eq_some_iff.mp H
  obtain ⟨t161, A20, H⟩ := H
  replace H : (if t161 = true then (if 0 ≤ (l0.length : Int) then (if ((l0.length : Int) : Int).toNat ≤ 35184372088832 then (tree_Deep.l0 k l0 (List.replicate ((l0.length : Int) : Int).toNat 0) l0 (l0.length : Int) 0) else (none)) else (none)) else (some 0)) = some r := H
  have A2 := Aside0.mk A20
  clear A20
  by_cases c3 : t161 = true
  · subst c3
    have H1 : (if 0 ≤ (l0.length : Int) then (if ((l0.length : Int) : Int).toNat ≤ 35184372088832 then (tree_Deep.l0 k l0 (List.replicate ((l0.length : Int) : Int).toNat 0) l0 (l0.length : Int) 0) else (none)) else (none)) = some r := by rw [if_pos rfl] at H; exact H
    clear H
    have H := H1
    clear H1
    by_cases c4 : 0 ≤ (l0.length : Int)
    · rw [if_pos c4] at H
      have c4b0 := eq_true c4
      have c4b1 : decide (0 ≤ (l0.length : Int)) = true := decide_eq_true c4
      clear c4
      by_cases c5 : ((l0.length : Int) : Int).toNat ≤ 35184372088832
      · rw [if_pos c5] at H
        have c5b0 := eq_true c5
        have c5b1 : decide (((l0.length : Int) : Int).toNat ≤ 35184372088832) = true := decide_eq_true c5
        clear c5
        obtain ⟨y162, hy162⟩ : ∃ y_ : List Int, y_ = (List.replicate ((l0.length : Int) : Int).toNat 0) := ⟨_, rfl⟩
        replace H : (tree_Deep.l0 k l0 y162 l0 (l0.length : Int) 0) = some r := by first | (rw [hy162]; with_reducible exact H) | (have H2_ := (Option.bind_some _ _).symm.trans H; rw [hy162]; with_reducible exact H2_) | (have H2_ := (Option.bind_some _ _).symm.trans H; with_reducible exact H2_) | with_reducible exact H | (rw [hy162]; exact H) | exact H
        have Ny162 := Aside0.mk hy162
        clear hy162
        have H' := Aside0.mk H
        clear H
        go_enter Tryd.func37, Tryd.ntmps37
        go_wp2_with (first | ((with_reducible refine gate_callee (f := 36) rfl ?_); refine goesL_ (some 7) rfl rfl Tryd.func36 (by kernel_rfl) rfl #[.slice A0 l0.length c0] rfl (by (try simp only [List.map_toArray, List.map_cons, List.map_nil]); first | done | rfl | (simp only [List.length_drop, List.length_take]; rfl)) ?_; (with_reducible refine (tree_Good.calls k _ _ l0 true _ ?side1 ?side2 A2.out ?sideG_).mono ?_); (case sideG_ => (first | (with_reducible exact HG_.out) | exact HG_.out.below (by repeat (first | (with_reducible first | exact HB.out | apply below_alloc | apply pw_below_drewN | apply below_drew1) | exact HB.out)))); (case side1 => repeat (first | exact HR0.out | (with_reducible refine Kd.C_alloc ?_ _) | (with_reducible refine Kd.C_drewN ?_ _) | (with_reducible refine Kd.C_drew ?_))); (case side2 => exact HC0.out); rintro e w6 ⟨rfl, hb⟩; refine ⟨_, rfl, ?_⟩; have n0_ := Aside0.mk (below_step (by repeat (first | (with_reducible first | exact HB.out | apply below_alloc | apply pw_below_drewN | apply below_drew1) | exact HB.out)) hb); clear HB; have HB := n0_; clear n0_; (try clear hb); (try clear hb2); (try clear hk); (try clear hi)) | ((with_reducible refine gate_dst (N := 11) rfl ?_); refine Kd.R_make (Kd.int .i64) _ 3 rfl (N := 11) rfl 56 _ _ rfl (l0.length : Int) rfl rfl Tryd.underlying56 (.int .i64 0) 8 info3 rfl (by decide) (by omega) 0 (ok := fun _ => True) (okp := fun _ => True) rfl (fun _ hk => hk) trivial (of_decide_eq_true (by first | (with_reducible assumption) | assumption)) (Nat.le_trans (Nat.mul_le_mul_right _ (of_decide_eq_true (by first | (with_reducible assumption) | assumption) : (l0.length : Int).toNat ≤ 35184372088832)) (by omega)) (Below.refl _ _) (Nat.le_refl _) ?_; intro v163 w7 ho8 hb hg_ hnew_; clear hg_ hnew_; (first | rw [← Ny162.out] at ho8 | (simp only [Int.reduceToNat] at ho8; rw [← Ny162.out] at ho8)); have n0_ := Aside0.mk (Kd.R_lower ho8 (below_size (by repeat (first | (with_reducible first | exact HB.out | apply below_alloc | apply pw_below_drewN | apply below_drew1) | exact HB.out)))); have n1_ := Aside0.mk (below_step (by repeat (first | (with_reducible first | exact HB.out | apply below_alloc | apply pw_below_drewN | apply below_drew1) | exact HB.out)) hb); clear HB; have HO164 := n0_; have HB := n1_; clear n0_ n1_; clear hb ho8))
        go_loopg [14] k (fun kq v14 w' => ∃ (x3_1 : List Int) (x14_1 : Int), v14 = .int .i64 x14_1 ∧ Aside0 (tree_Deep.l0 kq l0 x3_1 l0 (l0.length : Int) x14_1 = some r) ∧ Aside0 (kq ≤ k) ∧ Aside0 (Kd.R (Kd.int .i64) 3 w' w.heap.size (fun _ => True) v163 x3_1) ∧ Aside0 (Below w.heap.size w w'))
        case atStart => exact ⟨(y162), (0), (by first | rfl | (simp; done) | (simp [*]; done)), H', ⟨Nat.le_refl _⟩, ⟨by (with_reducible repeat (first | apply Kd.R_alloc | apply Kd.R_drewN | apply Kd.R_drew)); exact HO164.out⟩, ⟨by repeat (first | (with_reducible first | exact HB.out | apply below_alloc | apply pw_below_drewN | apply below_drew1) | exact HB.out)⟩⟩
        case round =>
          clear H'
          try clear p2
          try clear c3
          try clear c4
          try clear c4b0
          try clear c4b1
          try clear c5
          try clear c5b0
          try clear c5b1
          obtain ⟨x3_1, x14_1, rfl, HA, HK1, HO_3, HB⟩ := hrel
          cases gk with
          | zero => exact absurd HA.out (by simp [tree_Deep.l0])
          | succ k1 =>
            have H := HA.out
            clear HA
            simp only [tree_Deep.l0] at H
            by_cases c9 : x14_1 < (l0.length : Int)
            · rw [if_pos c9] at H
              have c9b0 : decide (x14_1 < (l0.length : Int)) = true := decide_eq_true c9
              clear c9
              by_cases c10 : 0 ≤ x14_1
              · rw [if_pos c10] at H
                have c10b0 : decide (0 ≤ x14_1) = true := decide_eq_true c10
                clear c10
                by_cases c11 : x14_1 < (l0.length : Int)
                · rw [if_pos c11] at H
                  have c11b0 : decide (x14_1 < (l0.length : Int)) = true := decide_eq_true c11
                  clear c11
                  by_cases c12 : x14_1 < (x3_1.length : Int)
                  · rw [if_pos c12] at H
                    have c12b0 : decide (x14_1 < (x3_1.length : Int)) = true := decide_eq_true c12
                    clear c12
                    obtain ⟨y168, hy168⟩ : ∃ y_ : List Int, y_ = (x3_1.set (x14_1 : Int).toNat 1) := ⟨_, rfl⟩
                    replace H : (if ((rd_T52 l0 x14_1).f0) = 1 then (tree_Deep.j1 k1 l0 y168 x14_1 l0 (l0.length : Int) x14_1 ((rd_T52 l0 x14_1).f0) (((rd_T52 l0 x14_1).f0) == 1) ((rd_T52 l0 x14_1).f0) ((rd_T52 l0 x14_1).f1) ((rd_T52 l0 x14_1).f2) ((rd_T52 l0 x14_1).f3) ((rd_T52 l0 x14_1).f4) ((rd_T52 l0 x14_1).f5) ((rd_T52 l0 x14_1).f6)) else (tree_Deep.j1 k1 l0 y168 x14_1 l0 (l0.length : Int) x14_1 ((rd_T52 l0 x14_1).f0) (((rd_T52 l0 x14_1).f0) == 2) ((rd_T52 l0 x14_1).f0) ((rd_T52 l0 x14_1).f1) ((rd_T52 l0 x14_1).f2) ((rd_T52 l0 x14_1).f3) ((rd_T52 l0 x14_1).f4) ((rd_T52 l0 x14_1).f5) ((rd_T52 l0 x14_1).f6))) = some r := by first | (rw [hy168]; with_reducible exact H) | (have H2_ := (Option.bind_some _ _).symm.trans H; rw [hy168]; with_reducible exact H2_) | (have H2_ := (Option.bind_some _ _).symm.trans H; with_reducible exact H2_) | with_reducible exact H | (rw [hy168]; exact H) | exact H
                    have Ny168 := Aside0.mk hy168
                    clear hy168
                    have HC14 := Aside0.mk H
                    clear H
                    have p166 : 0 ≤ (x14_1 : Int) := of_decide_eq_true (by first | (with_reducible assumption) | assumption)
                    have q166 : x14_1 < (l0.length : Int) := of_decide_eq_true (by first | (with_reducible assumption) | assumption)
                    obtain ⟨ad166, e166, hx166_0, hx166_1, hx166_2, hx166_3, hx166_4, hx166_5, hx166_6⟩ := at_T52 HR0.out x14_1 p166 q166
                    cases e166
                    replace hx166_0 := (HB.out.cell (World.block_lt_of_cell? w _ hx166_0)).trans hx166_0
                    replace hx166_1 := (HB.out.cell (World.block_lt_of_cell? w _ hx166_1)).trans hx166_1
                    replace hx166_2 := (HB.out.cell (World.block_lt_of_cell? w _ hx166_2)).trans hx166_2
                    replace hx166_3 := (HB.out.cell (World.block_lt_of_cell? w _ hx166_3)).trans hx166_3
                    replace hx166_4 := (HB.out.cell (World.block_lt_of_cell? w _ hx166_4)).trans hx166_4
                    replace hx166_5 := (HB.out.cell (World.block_lt_of_cell? w _ hx166_5)).trans hx166_5
                    replace hx166_6 := (HB.out.cell (World.block_lt_of_cell? w _ hx166_6)).trans hx166_6
                    replace p166 := eq_true p166
                    replace q166 := eq_true q166
                    go_upto_if 39 with (first | ((with_reducible refine gate_dst (N := 5) rfl ?_); refine box_event ?hg (N := 5) ?hd (cs := #[.int .i64 0, .int .i64 0, .int .i64 0, .int .i64 0, .string (⟨#[]⟩ : ByteArray), .string (⟨#[]⟩ : ByteArray), .int .i64 0]) (t := 52) ?hr ?_; (case hd => rfl); (case hg => rfl); (case hr => first | (go_simp; done) | (go_simp; rfl)); intro gb167 hg w15 hbox hb; have n0_ := Aside0.mk (Kd.R_below (by (with_reducible repeat (first | apply Kd.R_alloc | apply Kd.R_drewN | apply Kd.R_drew)); exact HO_3.out) hb); have n1_ := Aside0.mk (below_step (by repeat (first | (with_reducible first | exact HB.out | apply below_alloc | apply pw_below_drewN | apply below_drew1) | exact HB.out)) hb); have n2_ := Aside0.mk (hbox); have n3_ := Aside0.mk ((by rw [hg]; exact (below_size (by repeat (first | (with_reducible first | exact HB.out | apply below_alloc | apply pw_below_drewN | apply below_drew1) | exact HB.out))) : w.heap.size ≤ gb167)); have n4_ := Aside0.mk ((by rw [hg]; exact (below_size (by repeat (first | (with_reducible first | exact HB.out | apply below_alloc | apply pw_below_drewN | apply below_drew1) | exact HB.out))) : w.heap.size ≤ gb167)); clear HO_3; clear HB; have HO_3 := n0_; have HB := n1_; have BK167 := n2_; have GW167 := n3_; have GE167 := n4_; clear n0_ n1_ n2_ n3_ n4_; clear hb hbox hg; have hcz16_0 : w15.cell? ⟨gb167, 0, none⟩ = some (.int .i64 0) := (blk_cell BK167.out 0).trans rfl; have hcz16_1 : w15.cell? ⟨gb167, 1, none⟩ = some (.int .i64 0) := (blk_cell BK167.out 1).trans rfl; have hcz16_2 : w15.cell? ⟨gb167, 2, none⟩ = some (.int .i64 0) := (blk_cell BK167.out 2).trans rfl; have hcz16_3 : w15.cell? ⟨gb167, 3, none⟩ = some (.int .i64 0) := (blk_cell BK167.out 3).trans rfl; have hcz16_4 : w15.cell? ⟨gb167, 4, none⟩ = some (.string (⟨#[]⟩ : ByteArray)) := (blk_cell BK167.out 4).trans rfl; have hcz16_5 : w15.cell? ⟨gb167, 5, none⟩ = some (.string (⟨#[]⟩ : ByteArray)) := (blk_cell BK167.out 5).trans rfl; have hcz16_6 : w15.cell? ⟨gb167, 6, none⟩ = some (.int .i64 0) := (blk_cell BK167.out 6).trans rfl; have hfz16_0 := blk_frozen BK167.out 0; have hfz16_1 := blk_frozen BK167.out 1; have hfz16_2 := blk_frozen BK167.out 2; have hfz16_3 := blk_frozen BK167.out 3; have hfz16_4 := blk_frozen BK167.out 4; have hfz16_5 := blk_frozen BK167.out 5; have hfz16_6 := blk_frozen BK167.out 6) | ((with_reducible refine gate_store (t := 52) (p := 5) rfl ?_); refine store_event (t := 52) (p := 5) (v := ?vo_w17) (w1 := (((((((w15.setCell ⟨gb167, 0, none⟩ (.int .i64 ((rd_T52 l0 x14_1).f0))).setCell ⟨gb167, 1, none⟩ (.int .i64 ((rd_T52 l0 x14_1).f1))).setCell ⟨gb167, 2, none⟩ (.int .i64 ((rd_T52 l0 x14_1).f2))).setCell ⟨gb167, 3, none⟩ (.int .i64 ((rd_T52 l0 x14_1).f3))).setCell ⟨gb167, 4, none⟩ (.string ((rd_T52 l0 x14_1).f4))).setCell ⟨gb167, 5, none⟩ (.string ((rd_T52 l0 x14_1).f5))).setCell ⟨gb167, 6, none⟩ (.int .i64 ((rd_T52 l0 x14_1).f6)))) ?hg ?ho ?hn ?hr ?_; (case ho => rfl); (case hg => rfl); (case hn => rfl); (case hr => first | (go_simp; done) | (go_simp; rfl)); intro w17 hw; have n0_ : Aside0 (Kd.R (Kd.int .i64) 3 w17 w.heap.size (fun _ => True) v163 x3_1) := ⟨(by rw [hw]; exact (by (with_reducible repeat (first | apply Kd.R_alloc | apply Kd.R_drewN | apply Kd.R_drew)); exact Kd.R_mono (Kd.R_far (p := ⟨gb167, 6, none⟩) (Kd.R_far (p := ⟨gb167, 5, none⟩) (Kd.R_far (p := ⟨gb167, 4, none⟩) (Kd.R_far (p := ⟨gb167, 3, none⟩) (Kd.R_far (p := ⟨gb167, 2, none⟩) (Kd.R_far (p := ⟨gb167, 1, none⟩) (Kd.R_far (p := ⟨gb167, 0, none⟩) (Kd.R_types HO_3.out BK167.out (by decide)) (fun _ hk => hk.2) (.int .i64 ((rd_T52 l0 x14_1).f0))) (fun _ hk => hk.2) (.int .i64 ((rd_T52 l0 x14_1).f1))) (fun _ hk => hk.2) (.int .i64 ((rd_T52 l0 x14_1).f2))) (fun _ hk => hk.2) (.int .i64 ((rd_T52 l0 x14_1).f3))) (fun _ hk => hk.2) (.string ((rd_T52 l0 x14_1).f4))) (fun _ hk => hk.2) (.string ((rd_T52 l0 x14_1).f5))) (fun _ hk => hk.2) (.int .i64 ((rd_T52 l0 x14_1).f6))) (fun _ hk => trivial)))⟩; have n1_ : Aside0 (w17.heap[gb167]? = some (.cells #[.int .i64 ((rd_T52 l0 x14_1).f0), .int .i64 ((rd_T52 l0 x14_1).f1), .int .i64 ((rd_T52 l0 x14_1).f2), .int .i64 ((rd_T52 l0 x14_1).f3), .string ((rd_T52 l0 x14_1).f4), .string ((rd_T52 l0 x14_1).f5), .int .i64 ((rd_T52 l0 x14_1).f6)] 52 (0, 0))) := ⟨(by rw [hw]; exact (by (with_reducible repeat (first | refine blk_drewN ?_ _ | refine blk_drew ?_ | refine blk_alloc ?_ _)); refine blk_put (cs := #[.int .i64 ((rd_T52 l0 x14_1).f0), .int .i64 ((rd_T52 l0 x14_1).f1), .int .i64 ((rd_T52 l0 x14_1).f2), .int .i64 ((rd_T52 l0 x14_1).f3), .string ((rd_T52 l0 x14_1).f4), .string ((rd_T52 l0 x14_1).f5), .int .i64 0]) ?_ 6 _ rfl; (with_reducible repeat (first | refine blk_drewN ?_ _ | refine blk_drew ?_ | refine blk_alloc ?_ _)); refine blk_put (cs := #[.int .i64 ((rd_T52 l0 x14_1).f0), .int .i64 ((rd_T52 l0 x14_1).f1), .int .i64 ((rd_T52 l0 x14_1).f2), .int .i64 ((rd_T52 l0 x14_1).f3), .string ((rd_T52 l0 x14_1).f4), .string (⟨#[]⟩ : ByteArray), .int .i64 0]) ?_ 5 _ rfl; (with_reducible repeat (first | refine blk_drewN ?_ _ | refine blk_drew ?_ | refine blk_alloc ?_ _)); refine blk_put (cs := #[.int .i64 ((rd_T52 l0 x14_1).f0), .int .i64 ((rd_T52 l0 x14_1).f1), .int .i64 ((rd_T52 l0 x14_1).f2), .int .i64 ((rd_T52 l0 x14_1).f3), .string (⟨#[]⟩ : ByteArray), .string (⟨#[]⟩ : ByteArray), .int .i64 0]) ?_ 4 _ rfl; (with_reducible repeat (first | refine blk_drewN ?_ _ | refine blk_drew ?_ | refine blk_alloc ?_ _)); refine blk_put (cs := #[.int .i64 ((rd_T52 l0 x14_1).f0), .int .i64 ((rd_T52 l0 x14_1).f1), .int .i64 ((rd_T52 l0 x14_1).f2), .int .i64 0, .string (⟨#[]⟩ : ByteArray), .string (⟨#[]⟩ : ByteArray), .int .i64 0]) ?_ 3 _ rfl; (with_reducible repeat (first | refine blk_drewN ?_ _ | refine blk_drew ?_ | refine blk_alloc ?_ _)); refine blk_put (cs := #[.int .i64 ((rd_T52 l0 x14_1).f0), .int .i64 ((rd_T52 l0 x14_1).f1), .int .i64 0, .int .i64 0, .string (⟨#[]⟩ : ByteArray), .string (⟨#[]⟩ : ByteArray), .int .i64 0]) ?_ 2 _ rfl; (with_reducible repeat (first | refine blk_drewN ?_ _ | refine blk_drew ?_ | refine blk_alloc ?_ _)); refine blk_put (cs := #[.int .i64 ((rd_T52 l0 x14_1).f0), .int .i64 0, .int .i64 0, .int .i64 0, .string (⟨#[]⟩ : ByteArray), .string (⟨#[]⟩ : ByteArray), .int .i64 0]) ?_ 1 _ rfl; (with_reducible repeat (first | refine blk_drewN ?_ _ | refine blk_drew ?_ | refine blk_alloc ?_ _)); refine blk_put (cs := #[.int .i64 0, .int .i64 0, .int .i64 0, .int .i64 0, .string (⟨#[]⟩ : ByteArray), .string (⟨#[]⟩ : ByteArray), .int .i64 0]) ?_ 0 _ rfl; (with_reducible repeat (first | refine blk_drewN ?_ _ | refine blk_drew ?_ | refine blk_alloc ?_ _)); exact BK167.out))⟩; have n2_ : Aside0 (Below w.heap.size w w17) := ⟨(by rw [hw]; exact (by repeat (first | (with_reducible first | exact HB.out | apply below_alloc | apply pw_below_drewN | apply below_drew1 | refine below_set ?_ GE167.out) | exact HB.out)))⟩; clear hw; clear HO_3; clear BK167; clear HB; have HO_3 := n0_; have BK167 := n1_; have HB := n2_; clear n0_ n1_ n2_; have p13 : 0 ≤ (x14_1 : Int) := of_decide_eq_true (by first | (with_reducible assumption) | assumption); have q13 : (x14_1 : Int) < ((x3_1.length : Int) : Int) := of_decide_eq_true (by first | (with_reducible assumption) | assumption); obtain ⟨go13, co13, eo13, gb13, gl13, cl13, HG13⟩ := Kd.R_form HO_3.out (by omega); (first | cases eo13 | (injection eo13 with ea_ en_ ec_; (first | subst ea_ | (injection ea_ with ea_; subst ea_)); subst ec_; clear en_)); have GB13 := Aside0.mk gb13; have GG13 := Aside0.mk HG13; clear gb13 gl13 HG13; obtain ⟨hx13_0, hf13_0⟩ := Kd.R_celln 0 HO_3.out (x14_1 : Int) p13 q13; replace p13 := eq_true p13; replace q13 := eq_true q13; obtain ⟨hy18_, hz18_⟩ := Kd.R_celln 0 HO_3.out (x14_1 : Int) (of_decide_eq_true (by first | (with_reducible assumption) | assumption)) (of_decide_eq_true (by first | (with_reducible assumption) | assumption)); have HP18 := Kd.R_putg HO_3.out (x14_1 : Int) 1) | ((with_reducible refine gate_store (t := 3) (p := 21) rfl ?_); refine store_event (t := 3) (p := 21) (v := ?vo_w19) (w1 := (w17.setCell ⟨go13, (x14_1 : Int).toNat, none⟩ (.int .i64 1))) ?hg ?ho ?hn ?hr ?_; (case ho => rfl); (case hg => rfl); (case hn => rfl); (case hr => first | (go_simp; done) | (go_simp; rfl)); intro w19 hw; have hg : w17.grownBy w19 (some go13) := (by rw [hw]; exact HP18.2); have hp_ : Kd.R (Kd.int .i64) 3 w19 w.heap.size (fun _ => True) (.slice (some ⟨go13, 0, none⟩) x3_1.length co13) y168 := (by rw [hw, Ny168.out]; exact HP18.1); clear HP18; have n0_ := Aside0.mk (hp_); have n1_ := Aside0.mk (blk_grown (g := gb167) (o := .cells #[.int .i64 ((rd_T52 l0 x14_1).f0), .int .i64 ((rd_T52 l0 x14_1).f1), .int .i64 ((rd_T52 l0 x14_1).f2), .int .i64 ((rd_T52 l0 x14_1).f3), .string ((rd_T52 l0 x14_1).f4), .string ((rd_T52 l0 x14_1).f5), .int .i64 ((rd_T52 l0 x14_1).f6)] 52 (0, 0)) (by (with_reducible repeat (first | refine blk_drewN ?_ _ | refine blk_drew ?_ | refine blk_alloc ?_ _)); exact BK167.out) hg (Kd.R_ne HO_3.out BK167.out (by decide))); have n2_ := Aside0.mk ((by rw [hw]; exact below_set (HB.out) GB13.out : Below w.heap.size w w19)); clear HO_3; clear BK167; clear HB; have HO_3 := n0_; have BK167 := n1_; have HB := n2_; clear n0_ n1_ n2_; clear hg hw hp_; have hcz20_0 : w19.cell? ⟨gb167, 0, none⟩ = some (.int .i64 ((rd_T52 l0 x14_1).f0)) := (blk_cell BK167.out 0).trans rfl; have hcz20_1 : w19.cell? ⟨gb167, 1, none⟩ = some (.int .i64 ((rd_T52 l0 x14_1).f1)) := (blk_cell BK167.out 1).trans rfl; have hcz20_2 : w19.cell? ⟨gb167, 2, none⟩ = some (.int .i64 ((rd_T52 l0 x14_1).f2)) := (blk_cell BK167.out 2).trans rfl; have hcz20_3 : w19.cell? ⟨gb167, 3, none⟩ = some (.int .i64 ((rd_T52 l0 x14_1).f3)) := (blk_cell BK167.out 3).trans rfl; have hcz20_4 : w19.cell? ⟨gb167, 4, none⟩ = some (.string ((rd_T52 l0 x14_1).f4)) := (blk_cell BK167.out 4).trans rfl; have hcz20_5 : w19.cell? ⟨gb167, 5, none⟩ = some (.string ((rd_T52 l0 x14_1).f5)) := (blk_cell BK167.out 5).trans rfl; have hcz20_6 : w19.cell? ⟨gb167, 6, none⟩ = some (.int .i64 ((rd_T52 l0 x14_1).f6)) := (blk_cell BK167.out 6).trans rfl; have hfz20_0 := blk_frozen BK167.out 0; have hfz20_1 := blk_frozen BK167.out 1; have hfz20_2 := blk_frozen BK167.out 2; have hfz20_3 := blk_frozen BK167.out 3; have hfz20_4 := blk_frozen BK167.out 4; have hfz20_5 := blk_frozen BK167.out 5; have hfz20_6 := blk_frozen BK167.out 6))
                    (try simp only [Act.put, List.setIfInBounds_toArray, List.set_cons_zero, List.set_cons_succ])
                    go_cut [39] (fun v39 wc => ∃ (kq : Nat) (x39_13 : Bool), v39 = .bool x39_13 ∧ Aside0 (tree_Deep.j1 kq l0 y168 x14_1 l0 (l0.length : Int) x14_1 ((rd_T52 l0 x14_1).f0) x39_13 ((rd_T52 l0 x14_1).f0) ((rd_T52 l0 x14_1).f1) ((rd_T52 l0 x14_1).f2) ((rd_T52 l0 x14_1).f3) ((rd_T52 l0 x14_1).f4) ((rd_T52 l0 x14_1).f5) ((rd_T52 l0 x14_1).f6) = some r) ∧ Aside0 (kq ≤ k1) ∧ Aside0 (Kd.R (Kd.int .i64) 3 wc w.heap.size (fun _ => True) (.slice (some ⟨go13, 0, none⟩) x3_1.length co13) y168) ∧ Aside0 (wc.heap[gb167]? = some (.cells #[.int .i64 ((rd_T52 l0 x14_1).f0), .int .i64 ((rd_T52 l0 x14_1).f1), .int .i64 ((rd_T52 l0 x14_1).f2), .int .i64 ((rd_T52 l0 x14_1).f3), .string ((rd_T52 l0 x14_1).f4), .string ((rd_T52 l0 x14_1).f5), .int .i64 ((rd_T52 l0 x14_1).f6)] 52 (0, 0))) ∧ Aside0 (Below w.heap.size w wc))
                    case first =>
                      have H := HC14.out
                      clear HC14
                      by_cases c21 : ((rd_T52 l0 x14_1).f0) = 1
                      · rw [if_pos c21] at H
                        have c21b0 : (((rd_T52 l0 x14_1).f0) == 1) = true := beq_iff_eq.mpr c21
                        have c21b1 : (((rd_T52 l0 x14_1).f0) != 1) = false := bne_eq_false_iff_eq.mpr c21
                        clear c21
                        (first | rw [c21b0] | (simp only [i64_w, i32_w]; rw [c21b0]) | skip)
                        have H' := Aside0.mk H
                        clear H
                        go_wp2
                        go_meet
                        case rel => exact ⟨_, ((((rd_T52 l0 x14_1).f0) == 1)), (by first | rfl | (simp; done) | (simp [*]; done)), H', ⟨by have := HK1.out; first | omega | exact Nat.le_refl _⟩, ⟨by (with_reducible repeat (first | apply Kd.R_alloc | apply Kd.R_drewN | apply Kd.R_drew)); exact HO_3.out⟩, ⟨by (with_reducible repeat (first | refine blk_drewN ?_ _ | refine blk_drew ?_ | refine blk_alloc ?_ _)); exact BK167.out⟩, ⟨by repeat (first | (with_reducible first | exact HB.out | apply below_alloc | apply pw_below_drewN | apply below_drew1 | refine below_set ?_ GE167.out) | exact HB.out)⟩⟩
                      · rw [if_neg c21] at H
                        have c21b0 : (((rd_T52 l0 x14_1).f0) == 1) = false := beq_eq_false_iff_ne.mpr c21
                        have c21b1 : (((rd_T52 l0 x14_1).f0) != 1) = true := bne_iff_ne.mpr c21
                        (first | rw [c21b0] | (simp only [i64_w, i32_w]; rw [c21b0]) | skip)
                        have H' := Aside0.mk H
                        clear H
                        go_wp2
                        go_meet
                        case rel => exact ⟨_, ((((rd_T52 l0 x14_1).f0) == 2)), (by first | rfl | (simp; done) | (simp [*]; done)), H', ⟨by have := HK1.out; first | omega | exact Nat.le_refl _⟩, ⟨by (with_reducible repeat (first | apply Kd.R_alloc | apply Kd.R_drewN | apply Kd.R_drew)); exact HO_3.out⟩, ⟨by (with_reducible repeat (first | refine blk_drewN ?_ _ | refine blk_drew ?_ | refine blk_alloc ?_ _)); exact BK167.out⟩, ⟨by repeat (first | (with_reducible first | exact HB.out | apply below_alloc | apply pw_below_drewN | apply below_drew1 | refine below_set ?_ GE167.out) | exact HB.out)⟩⟩
                    case rest =>
                      clear HC14
                      try clear c1
                      try clear p1
                      try clear q1
                      try clear hx1
                      try clear hf1
                      try clear c2
                      try clear p2
                      try clear c3
                      try clear c4
                      try clear c4b0
                      try clear c4b1
                      try clear c5
                      try clear c5b0
                      try clear c5b1
                      try clear c9
                      try clear c9b0
                      try clear c10
                      try clear c10b0
                      try clear c11
                      try clear c11b0
                      try clear c12
                      try clear c12b0
                      try clear p13
                      try clear q13
                      try clear hx13
                      try clear hf13
                      try clear p16
                      try clear q16
                      try clear hx16
                      try clear c21
                      try clear c21b0
                      try clear c21b1
                      try clear hcz16_0
                      try clear hcz16_1
                      try clear hcz16_2
                      try clear hcz16_3
                      try clear hcz16_4
                      try clear hcz16_5
                      try clear hcz16_6
                      try clear hcz20_0
                      try clear hcz20_1
                      try clear hcz20_2
                      try clear hcz20_3
                      try clear hcz20_4
                      try clear hcz20_5
                      try clear hcz20_6
                      try clear hfz16_0
                      try clear hfz16_1
                      try clear hfz16_2
                      try clear hfz16_3
                      try clear hfz16_4
                      try clear hfz16_5
                      try clear hfz16_6
                      try clear hfz20_0
                      try clear hfz20_1
                      try clear hfz20_2
                      try clear hfz20_3
                      try clear hfz20_4
                      try clear hfz20_5
                      try clear hfz20_6
                      try clear hx13_0
                      try clear hx166_0
                      try clear hx166_1
                      try clear hx166_2
                      try clear hx166_3
                      try clear hx166_4
                      try clear hx166_5
                      try clear hx166_6
                      try clear p13
                      try clear p166
                      try clear p2
                      try clear q13
                      try clear q166
                      obtain ⟨kq, x39_13, rfl, HA, HJ13, HO_3, BK167, HB⟩ := hcut
                      have hl3_13 := (Kd.R_reads' HO_3.out).1
                      rw [hl3_13] at HO_3
                      (try simp only [hl3_13])
                      (try simp only [hl3_13] at BK167)
                      cases kq with
                      | zero => exact absurd HA.out (by simp [tree_Deep.j1])
                      | succ kj13 =>
                        have H := HA.out
                        clear HA
                        simp only [tree_Deep.j1] at H
                        by_cases c22 : x39_13 = true
                        · subst c22
                          have H1 : (tree_Deep.l0 kj13 l0 y168 l0 (l0.length : Int) (wrap64 (x14_1 + 1))) = some r := by rw [if_pos rfl] at H; exact H
                          clear H
                          have H := H1
                          clear H1
                          have H' := Aside0.mk H
                          clear H
                          go_wp2
                          (try simp only [← hl3_13])
                          go_roundg kj13
                          case measure => have := HK1.out; have := HJ13.out; omega
                          case rel => exact ⟨(y168), (wrap64 (x14_1 + 1)), (by first | rfl | (simp; done) | (simp [*]; done)), H', ⟨by have := HK1.out; have := HJ13.out; omega⟩, ⟨by (try simp only [hl3_13]); (with_reducible repeat (first | apply Kd.R_alloc | apply Kd.R_drewN | apply Kd.R_drew)); exact HO_3.out⟩, ⟨by repeat (first | (with_reducible first | exact HB.out | apply below_alloc | apply pw_below_drewN | apply below_drew1 | refine below_set ?_ GE167.out) | exact HB.out)⟩⟩
                        · replace c22 := Bool.eq_false_iff.mpr c22
                          subst c22
                          have H1 : (if ((rd_T52 l0 x14_1).f0) = 7 then (if 0 ≤ ((rd_T52 l0 x14_1).f1) then (if ((rd_T52 l0 x14_1).f1) < (y168.length : Int) then (if 0 ≤ x14_1 then (if x14_1 < (y168.length : Int) then (tree_Deep.l0 kj13 l0 (y168.set (x14_1 : Int).toNat (wrap64 (1 + (rd y168 ((rd_T52 l0 x14_1).f1))))) l0 (l0.length : Int) (wrap64 (x14_1 + 1))) else (none)) else (none)) else (none)) else (none)) else (if ((rd_T52 l0 x14_1).f0) = 8 then (if 0 ≤ ((rd_T52 l0 x14_1).f1) then (if ((rd_T52 l0 x14_1).f1) < (y168.length : Int) then (if 0 ≤ x14_1 then (if x14_1 < (y168.length : Int) then (tree_Deep.l0 kj13 l0 (y168.set (x14_1 : Int).toNat (wrap64 (1 + (rd y168 ((rd_T52 l0 x14_1).f1))))) l0 (l0.length : Int) (wrap64 (x14_1 + 1))) else (none)) else (none)) else (none)) else (none)) else (if 0 ≤ ((rd_T52 l0 x14_1).f1) then (if ((rd_T52 l0 x14_1).f1) < (y168.length : Int) then (if 0 ≤ ((rd_T52 l0 x14_1).f2) then (if ((rd_T52 l0 x14_1).f2) < (y168.length : Int) then (if 0 ≤ x14_1 then (if x14_1 < (y168.length : Int) then (tree_Deep.l0 kj13 l0 (y168.set (x14_1 : Int).toNat (wrap64 (1 + (mx (rd y168 ((rd_T52 l0 x14_1).f1)) (rd y168 ((rd_T52 l0 x14_1).f2)))))) l0 (l0.length : Int) (wrap64 (x14_1 + 1))) else (none)) else (none)) else (none)) else (none)) else (none)) else (none)))) = some r := by rw [if_neg (show ¬ (false = true) by decide)] at H; exact H
                          clear H
                          have H := H1
                          clear H1
                          by_cases c23 : ((rd_T52 l0 x14_1).f0) = 7
                          · rw [if_pos c23] at H
                            have c23b0 : (((rd_T52 l0 x14_1).f0) == 7) = true := beq_iff_eq.mpr c23
                            have c23b1 : (((rd_T52 l0 x14_1).f0) != 7) = false := bne_eq_false_iff_eq.mpr c23
                            clear c23
                            by_cases c24 : 0 ≤ ((rd_T52 l0 x14_1).f1)
                            · rw [if_pos c24] at H
                              have c24b0 : decide (0 ≤ ((rd_T52 l0 x14_1).f1)) = true := decide_eq_true c24
                              clear c24
                              by_cases c25 : ((rd_T52 l0 x14_1).f1) < (y168.length : Int)
                              · rw [if_pos c25] at H
                                have c25b0 : decide (((rd_T52 l0 x14_1).f1) < (y168.length : Int)) = true := decide_eq_true c25
                                clear c25
                                by_cases c26 : 0 ≤ x14_1
                                · rw [if_pos c26] at H
                                  have c26b0 : decide (0 ≤ x14_1) = true := decide_eq_true c26
                                  clear c26
                                  by_cases c27 : x14_1 < (y168.length : Int)
                                  · rw [if_pos c27] at H
                                    have c27b0 : decide (x14_1 < (y168.length : Int)) = true := decide_eq_true c27
                                    clear c27
                                    obtain ⟨y170, hy170⟩ : ∃ y_ : List Int, y_ = (y168.set (x14_1 : Int).toNat (wrap64 (1 + (rd y168 ((rd_T52 l0 x14_1).f1))))) := ⟨_, rfl⟩
                                    replace H : (tree_Deep.l0 kj13 l0 y170 l0 (l0.length : Int) (wrap64 (x14_1 + 1))) = some r := by first | (rw [hy170]; with_reducible exact H) | (have H2_ := (Option.bind_some _ _).symm.trans H; rw [hy170]; with_reducible exact H2_) | (have H2_ := (Option.bind_some _ _).symm.trans H; with_reducible exact H2_) | with_reducible exact H | (rw [hy170]; exact H) | exact H
                                    have Ny170 := Aside0.mk hy170
                                    clear hy170
                                    have H' := Aside0.mk H
                                    clear H
                                    have hcz29_0 : wc.cell? ⟨gb167, 0, none⟩ = some (.int .i64 ((rd_T52 l0 x14_1).f0)) := (blk_cell BK167.out 0).trans rfl
                                    have hcz29_1 : wc.cell? ⟨gb167, 1, none⟩ = some (.int .i64 ((rd_T52 l0 x14_1).f1)) := (blk_cell BK167.out 1).trans rfl
                                    have hcz29_2 : wc.cell? ⟨gb167, 2, none⟩ = some (.int .i64 ((rd_T52 l0 x14_1).f2)) := (blk_cell BK167.out 2).trans rfl
                                    have hcz29_3 : wc.cell? ⟨gb167, 3, none⟩ = some (.int .i64 ((rd_T52 l0 x14_1).f3)) := (blk_cell BK167.out 3).trans rfl
                                    have hcz29_4 : wc.cell? ⟨gb167, 4, none⟩ = some (.string ((rd_T52 l0 x14_1).f4)) := (blk_cell BK167.out 4).trans rfl
                                    have hcz29_5 : wc.cell? ⟨gb167, 5, none⟩ = some (.string ((rd_T52 l0 x14_1).f5)) := (blk_cell BK167.out 5).trans rfl
                                    have hcz29_6 : wc.cell? ⟨gb167, 6, none⟩ = some (.int .i64 ((rd_T52 l0 x14_1).f6)) := (blk_cell BK167.out 6).trans rfl
                                    have hfz29_0 := blk_frozen BK167.out 0
                                    have hfz29_1 := blk_frozen BK167.out 1
                                    have hfz29_2 := blk_frozen BK167.out 2
                                    have hfz29_3 := blk_frozen BK167.out 3
                                    have hfz29_4 := blk_frozen BK167.out 4
                                    have hfz29_5 := blk_frozen BK167.out 5
                                    have hfz29_6 := blk_frozen BK167.out 6
                                    have p169 : 0 ≤ (((rd_T52 l0 x14_1).f1) : Int) := of_decide_eq_true (by first | (with_reducible assumption) | assumption)
                                    have q169 : ((rd_T52 l0 x14_1).f1) < (y168.length : Int) := of_decide_eq_true (by first | (with_reducible assumption) | assumption)
                                    obtain ⟨ad169, e169, hx169_0⟩ := Kd.at_int (Kd.R_reads' HO_3.out).2.2 ((rd_T52 l0 x14_1).f1) p169 q169
                                    obtain rfl : (⟨go13, 0, none⟩ : Addr) = ad169 := (by injection e169)
                                    (first | simp only [add_plain] at hx169_0 | simp only [add_at] at hx169_0 | simp only [Addr.add, Nat.zero_add] at hx169_0 | skip)
                                    replace p169 := eq_true p169
                                    replace q169 := eq_true q169
                                    have p28 : 0 ≤ (x14_1 : Int) := of_decide_eq_true (by first | (with_reducible assumption) | assumption)
                                    have q28 : (x14_1 : Int) < ((y168.length : Int) : Int) := of_decide_eq_true (by first | (with_reducible assumption) | assumption)
                                    obtain ⟨hx28_0, hf28_0⟩ := Kd.R_celln 0 HO_3.out (x14_1 : Int) p28 q28
                                    replace p28 := eq_true p28
                                    replace q28 := eq_true q28
                                    have HP30 := Kd.R_putg HO_3.out (x14_1 : Int) (wrap64 (1 + (rd y168 ((rd_T52 l0 x14_1).f1))))
                                    go_wp2_with (first | ((with_reducible refine gate_store (t := 3) (p := 53) rfl ?_); refine store_event (t := 3) (p := 53) (v := ?vo_w31) (w1 := (wc.setCell ⟨go13, (x14_1 : Int).toNat, none⟩ (.int .i64 (wrap64 (1 + (rd y168 ((rd_T52 l0 x14_1).f1))))))) ?hg ?ho ?hn ?hr ?_; (case ho => rfl); (case hg => rfl); (case hn => rfl); (case hr => first | (go_simp; done) | (go_simp; rfl)); intro w31 hw; have hg : wc.grownBy w31 (some go13) := (by rw [hw]; exact HP30.2); have hp_ : Kd.R (Kd.int .i64) 3 w31 w.heap.size (fun _ => True) (.slice (some ⟨go13, 0, none⟩) y168.length co13) y170 := (by rw [hw, Ny170.out]; exact HP30.1); clear HP30; have n0_ := Aside0.mk (hp_); have n1_ := Aside0.mk (blk_grown (g := gb167) (o := .cells #[.int .i64 ((rd_T52 l0 x14_1).f0), .int .i64 ((rd_T52 l0 x14_1).f1), .int .i64 ((rd_T52 l0 x14_1).f2), .int .i64 ((rd_T52 l0 x14_1).f3), .string ((rd_T52 l0 x14_1).f4), .string ((rd_T52 l0 x14_1).f5), .int .i64 ((rd_T52 l0 x14_1).f6)] 52 (0, 0)) (by (with_reducible repeat (first | refine blk_drewN ?_ _ | refine blk_drew ?_ | refine blk_alloc ?_ _)); exact BK167.out) hg (Kd.R_ne HO_3.out BK167.out (by decide))); have n2_ := Aside0.mk ((by rw [hw]; exact below_set (HB.out) GB13.out : Below w.heap.size w w31)); clear HO_3; clear BK167; clear HB; have HO_3 := n0_; have BK167 := n1_; have HB := n2_; clear n0_ n1_ n2_; clear hg hw hp_))
                                    (try simp only [← hl3_13])
                                    go_roundg kj13
                                    case measure => have := HK1.out; have := HJ13.out; omega
                                    case rel => exact ⟨(y170), (wrap64 (x14_1 + 1)), (by first | rfl | (simp; done) | (simp [*]; done)), H', ⟨by have := HK1.out; have := HJ13.out; omega⟩, ⟨by (try simp only [hl3_13]); (with_reducible repeat (first | apply Kd.R_alloc | apply Kd.R_drewN | apply Kd.R_drew)); exact HO_3.out⟩, ⟨by repeat (first | (with_reducible first | exact HB.out | apply below_alloc | apply pw_below_drewN | apply below_drew1 | refine below_set ?_ GE167.out) | exact HB.out)⟩⟩
                                  · rw [if_neg c27] at H
                                    exact absurd H (by simp)
                                · rw [if_neg c26] at H
                                  exact absurd H (by simp)
                              · rw [if_neg c25] at H
                                exact absurd H (by simp)
                            · rw [if_neg c24] at H
                              exact absurd H (by simp)
                          · rw [if_neg c23] at H
                            have c23b0 : (((rd_T52 l0 x14_1).f0) == 7) = false := beq_eq_false_iff_ne.mpr c23
                            have c23b1 : (((rd_T52 l0 x14_1).f0) != 7) = true := bne_iff_ne.mpr c23
                            by_cases c32 : ((rd_T52 l0 x14_1).f0) = 8
                            · rw [if_pos c32] at H
                              have c32b0 : (((rd_T52 l0 x14_1).f0) == 8) = true := beq_iff_eq.mpr c32
                              have c32b1 : (((rd_T52 l0 x14_1).f0) != 8) = false := bne_eq_false_iff_eq.mpr c32
                              clear c32
                              by_cases c33 : 0 ≤ ((rd_T52 l0 x14_1).f1)
                              · rw [if_pos c33] at H
                                have c33b0 : decide (0 ≤ ((rd_T52 l0 x14_1).f1)) = true := decide_eq_true c33
                                clear c33
                                by_cases c34 : ((rd_T52 l0 x14_1).f1) < (y168.length : Int)
                                · rw [if_pos c34] at H
                                  have c34b0 : decide (((rd_T52 l0 x14_1).f1) < (y168.length : Int)) = true := decide_eq_true c34
                                  clear c34
                                  by_cases c35 : 0 ≤ x14_1
                                  · rw [if_pos c35] at H
                                    have c35b0 : decide (0 ≤ x14_1) = true := decide_eq_true c35
                                    clear c35
                                    by_cases c36 : x14_1 < (y168.length : Int)
                                    · rw [if_pos c36] at H
                                      have c36b0 : decide (x14_1 < (y168.length : Int)) = true := decide_eq_true c36
                                      clear c36
                                      obtain ⟨y172, hy172⟩ : ∃ y_ : List Int, y_ = (y168.set (x14_1 : Int).toNat (wrap64 (1 + (rd y168 ((rd_T52 l0 x14_1).f1))))) := ⟨_, rfl⟩
                                      replace H : (tree_Deep.l0 kj13 l0 y172 l0 (l0.length : Int) (wrap64 (x14_1 + 1))) = some r := by first | (rw [hy172]; with_reducible exact H) | (have H2_ := (Option.bind_some _ _).symm.trans H; rw [hy172]; with_reducible exact H2_) | (have H2_ := (Option.bind_some _ _).symm.trans H; with_reducible exact H2_) | with_reducible exact H | (rw [hy172]; exact H) | exact H
                                      have Ny172 := Aside0.mk hy172
                                      clear hy172
                                      have H' := Aside0.mk H
                                      clear H
                                      have hcz38_0 : wc.cell? ⟨gb167, 0, none⟩ = some (.int .i64 ((rd_T52 l0 x14_1).f0)) := (blk_cell BK167.out 0).trans rfl
                                      have hcz38_1 : wc.cell? ⟨gb167, 1, none⟩ = some (.int .i64 ((rd_T52 l0 x14_1).f1)) := (blk_cell BK167.out 1).trans rfl
                                      have hcz38_2 : wc.cell? ⟨gb167, 2, none⟩ = some (.int .i64 ((rd_T52 l0 x14_1).f2)) := (blk_cell BK167.out 2).trans rfl
                                      have hcz38_3 : wc.cell? ⟨gb167, 3, none⟩ = some (.int .i64 ((rd_T52 l0 x14_1).f3)) := (blk_cell BK167.out 3).trans rfl
                                      have hcz38_4 : wc.cell? ⟨gb167, 4, none⟩ = some (.string ((rd_T52 l0 x14_1).f4)) := (blk_cell BK167.out 4).trans rfl
                                      have hcz38_5 : wc.cell? ⟨gb167, 5, none⟩ = some (.string ((rd_T52 l0 x14_1).f5)) := (blk_cell BK167.out 5).trans rfl
                                      have hcz38_6 : wc.cell? ⟨gb167, 6, none⟩ = some (.int .i64 ((rd_T52 l0 x14_1).f6)) := (blk_cell BK167.out 6).trans rfl
                                      have hfz38_0 := blk_frozen BK167.out 0
                                      have hfz38_1 := blk_frozen BK167.out 1
                                      have hfz38_2 := blk_frozen BK167.out 2
                                      have hfz38_3 := blk_frozen BK167.out 3
                                      have hfz38_4 := blk_frozen BK167.out 4
                                      have hfz38_5 := blk_frozen BK167.out 5
                                      have hfz38_6 := blk_frozen BK167.out 6
                                      have p171 : 0 ≤ (((rd_T52 l0 x14_1).f1) : Int) := of_decide_eq_true (by first | (with_reducible assumption) | assumption)
                                      have q171 : ((rd_T52 l0 x14_1).f1) < (y168.length : Int) := of_decide_eq_true (by first | (with_reducible assumption) | assumption)
                                      obtain ⟨ad171, e171, hx171_0⟩ := Kd.at_int (Kd.R_reads' HO_3.out).2.2 ((rd_T52 l0 x14_1).f1) p171 q171
                                      obtain rfl : (⟨go13, 0, none⟩ : Addr) = ad171 := (by injection e171)
                                      (first | simp only [add_plain] at hx171_0 | simp only [add_at] at hx171_0 | simp only [Addr.add, Nat.zero_add] at hx171_0 | skip)
                                      replace p171 := eq_true p171
                                      replace q171 := eq_true q171
                                      have p37 : 0 ≤ (x14_1 : Int) := of_decide_eq_true (by first | (with_reducible assumption) | assumption)
                                      have q37 : (x14_1 : Int) < ((y168.length : Int) : Int) := of_decide_eq_true (by first | (with_reducible assumption) | assumption)
                                      obtain ⟨hx37_0, hf37_0⟩ := Kd.R_celln 0 HO_3.out (x14_1 : Int) p37 q37
                                      replace p37 := eq_true p37
                                      replace q37 := eq_true q37
                                      have HP39 := Kd.R_putg HO_3.out (x14_1 : Int) (wrap64 (1 + (rd y168 ((rd_T52 l0 x14_1).f1))))
                                      go_wp2_with (first | ((with_reducible refine gate_store (t := 3) (p := 53) rfl ?_); refine store_event (t := 3) (p := 53) (v := ?vo_w40) (w1 := (wc.setCell ⟨go13, (x14_1 : Int).toNat, none⟩ (.int .i64 (wrap64 (1 + (rd y168 ((rd_T52 l0 x14_1).f1))))))) ?hg ?ho ?hn ?hr ?_; (case ho => rfl); (case hg => rfl); (case hn => rfl); (case hr => first | (go_simp; done) | (go_simp; rfl)); intro w40 hw; have hg : wc.grownBy w40 (some go13) := (by rw [hw]; exact HP39.2); have hp_ : Kd.R (Kd.int .i64) 3 w40 w.heap.size (fun _ => True) (.slice (some ⟨go13, 0, none⟩) y168.length co13) y172 := (by rw [hw, Ny172.out]; exact HP39.1); clear HP39; have n0_ := Aside0.mk (hp_); have n1_ := Aside0.mk (blk_grown (g := gb167) (o := .cells #[.int .i64 ((rd_T52 l0 x14_1).f0), .int .i64 ((rd_T52 l0 x14_1).f1), .int .i64 ((rd_T52 l0 x14_1).f2), .int .i64 ((rd_T52 l0 x14_1).f3), .string ((rd_T52 l0 x14_1).f4), .string ((rd_T52 l0 x14_1).f5), .int .i64 ((rd_T52 l0 x14_1).f6)] 52 (0, 0)) (by (with_reducible repeat (first | refine blk_drewN ?_ _ | refine blk_drew ?_ | refine blk_alloc ?_ _)); exact BK167.out) hg (Kd.R_ne HO_3.out BK167.out (by decide))); have n2_ := Aside0.mk ((by rw [hw]; exact below_set (HB.out) GB13.out : Below w.heap.size w w40)); clear HO_3; clear BK167; clear HB; have HO_3 := n0_; have BK167 := n1_; have HB := n2_; clear n0_ n1_ n2_; clear hg hw hp_))
                                      (try simp only [← hl3_13])
                                      go_roundg kj13
                                      case measure => have := HK1.out; have := HJ13.out; omega
                                      case rel => exact ⟨(y172), (wrap64 (x14_1 + 1)), (by first | rfl | (simp; done) | (simp [*]; done)), H', ⟨by have := HK1.out; have := HJ13.out; omega⟩, ⟨by (try simp only [hl3_13]); (with_reducible repeat (first | apply Kd.R_alloc | apply Kd.R_drewN | apply Kd.R_drew)); exact HO_3.out⟩, ⟨by repeat (first | (with_reducible first | exact HB.out | apply below_alloc | apply pw_below_drewN | apply below_drew1 | refine below_set ?_ GE167.out) | exact HB.out)⟩⟩
                                    · rw [if_neg c36] at H
                                      exact absurd H (by simp)
                                  · rw [if_neg c35] at H
                                    exact absurd H (by simp)
                                · rw [if_neg c34] at H
                                  exact absurd H (by simp)
                              · rw [if_neg c33] at H
                                exact absurd H (by simp)
                            · rw [if_neg c32] at H
                              have c32b0 : (((rd_T52 l0 x14_1).f0) == 8) = false := beq_eq_false_iff_ne.mpr c32
                              have c32b1 : (((rd_T52 l0 x14_1).f0) != 8) = true := bne_iff_ne.mpr c32
                              by_cases c41 : 0 ≤ ((rd_T52 l0 x14_1).f1)
                              · rw [if_pos c41] at H
                                have c41b0 : decide (0 ≤ ((rd_T52 l0 x14_1).f1)) = true := decide_eq_true c41
                                clear c41
                                by_cases c42 : ((rd_T52 l0 x14_1).f1) < (y168.length : Int)
                                · rw [if_pos c42] at H
                                  have c42b0 : decide (((rd_T52 l0 x14_1).f1) < (y168.length : Int)) = true := decide_eq_true c42
                                  clear c42
                                  by_cases c43 : 0 ≤ ((rd_T52 l0 x14_1).f2)
                                  · rw [if_pos c43] at H
                                    have c43b0 : decide (0 ≤ ((rd_T52 l0 x14_1).f2)) = true := decide_eq_true c43
                                    clear c43
                                    by_cases c44 : ((rd_T52 l0 x14_1).f2) < (y168.length : Int)
                                    · rw [if_pos c44] at H
                                      have c44b0 : decide (((rd_T52 l0 x14_1).f2) < (y168.length : Int)) = true := decide_eq_true c44
                                      clear c44
                                      obtain ⟨ji45, hji45⟩ : ∃ j_ : Int, (mx (rd y168 ((rd_T52 l0 x14_1).f1)) (rd y168 ((rd_T52 l0 x14_1).f2))) = j_ := ⟨_, rfl⟩
                                      replace H : (if 0 ≤ x14_1 then (if x14_1 < (y168.length : Int) then (tree_Deep.l0 kj13 l0 (y168.set (x14_1 : Int).toNat (wrap64 (1 + (ji45)))) l0 (l0.length : Int) (wrap64 (x14_1 + 1))) else (none)) else (none)) = some r := by first | (rw [hji45] at H; exact H) | (simp only [hji45] at H ⊢; exact H)
                                      have hji45_ : (if (rd y168 ((rd_T52 l0 x14_1).f1)) < (rd y168 ((rd_T52 l0 x14_1).f2)) then (rd y168 ((rd_T52 l0 x14_1).f2)) else (rd y168 ((rd_T52 l0 x14_1).f1))) = ji45 := hji45
                                      by_cases c46 : 0 ≤ x14_1
                                      · rw [if_pos c46] at H
                                        have c46b0 : decide (0 ≤ x14_1) = true := decide_eq_true c46
                                        clear c46
                                        by_cases c47 : x14_1 < (y168.length : Int)
                                        · rw [if_pos c47] at H
                                          have c47b0 : decide (x14_1 < (y168.length : Int)) = true := decide_eq_true c47
                                          clear c47
                                          obtain ⟨y175, hy175⟩ : ∃ y_ : List Int, y_ = (y168.set (x14_1 : Int).toNat (wrap64 (1 + (ji45)))) := ⟨_, rfl⟩
                                          replace H : (tree_Deep.l0 kj13 l0 y175 l0 (l0.length : Int) (wrap64 (x14_1 + 1))) = some r := by first | (rw [hy175]; with_reducible exact H) | (have H2_ := (Option.bind_some _ _).symm.trans H; rw [hy175]; with_reducible exact H2_) | (have H2_ := (Option.bind_some _ _).symm.trans H; with_reducible exact H2_) | with_reducible exact H | (rw [hy175]; exact H) | exact H
                                          have Ny175 := Aside0.mk hy175
                                          clear hy175
                                          have H' := Aside0.mk H
                                          clear H
                                          try go_wp2
                                          have n0_ := Aside0.mk (Kd.R_drew HO_3.out)
                                          have n1_ := Aside0.mk (blk_drew BK167.out)
                                          have n2_ := Aside0.mk (below_drew1 HB.out)
                                          clear HO_3
                                          clear BK167
                                          clear HB
                                          have HO_3 := n0_
                                          have BK167 := n1_
                                          have HB := n2_
                                          clear n0_ n1_ n2_
                                          have p173 : 0 ≤ (((rd_T52 l0 x14_1).f1) : Int) := of_decide_eq_true (by first | (with_reducible assumption) | assumption)
                                          have q173 : ((rd_T52 l0 x14_1).f1) < (y168.length : Int) := of_decide_eq_true (by first | (with_reducible assumption) | assumption)
                                          obtain ⟨ad173, e173, hx173_0⟩ := Kd.at_int (Kd.R_reads' HO_3.out).2.2 ((rd_T52 l0 x14_1).f1) p173 q173
                                          obtain rfl : (⟨go13, 0, none⟩ : Addr) = ad173 := (by injection e173)
                                          (first | simp only [add_plain] at hx173_0 | simp only [add_at] at hx173_0 | simp only [Addr.add, Nat.zero_add] at hx173_0 | skip)
                                          replace p173 := eq_true p173
                                          replace q173 := eq_true q173
                                          have p174 : 0 ≤ (((rd_T52 l0 x14_1).f2) : Int) := of_decide_eq_true (by first | (with_reducible assumption) | assumption)
                                          have q174 : ((rd_T52 l0 x14_1).f2) < (y168.length : Int) := of_decide_eq_true (by first | (with_reducible assumption) | assumption)
                                          obtain ⟨ad174, e174, hx174_0⟩ := Kd.at_int (Kd.R_reads' HO_3.out).2.2 ((rd_T52 l0 x14_1).f2) p174 q174
                                          obtain rfl : (⟨go13, 0, none⟩ : Addr) = ad174 := (by injection e174)
                                          (first | simp only [add_plain] at hx174_0 | simp only [add_at] at hx174_0 | simp only [Addr.add, Nat.zero_add] at hx174_0 | skip)
                                          replace p174 := eq_true p174
                                          replace q174 := eq_true q174
                                          have p48 : 0 ≤ (x14_1 : Int) := of_decide_eq_true (by first | (with_reducible assumption) | assumption)
                                          have q48 : (x14_1 : Int) < ((y168.length : Int) : Int) := of_decide_eq_true (by first | (with_reducible assumption) | assumption)
                                          obtain ⟨hx48_0, hf48_0⟩ := Kd.R_celln 0 HO_3.out (x14_1 : Int) p48 q48
                                          replace p48 := eq_true p48
                                          replace q48 := eq_true q48
                                          have HP50 := Kd.R_putn HO_3.out (x14_1 : Int) (wrap64 (1 + (ji45)))
                                          rw [← Ny175.out] at HP50
                                          have HQ50 := Aside0.mk HP50
                                          clear HP50
                                          refine start_ (n := 16) (S := fun w' => w'.cell? ⟨gb167, 0, none⟩ = some (.int .i64 ((rd_T52 l0 x14_1).f0)) ∧ w'.cell? ⟨gb167, 1, none⟩ = some (.int .i64 ((rd_T52 l0 x14_1).f1)) ∧ w'.cell? ⟨gb167, 2, none⟩ = some (.int .i64 ((rd_T52 l0 x14_1).f2)) ∧ w'.cell? ⟨gb167, 3, none⟩ = some (.int .i64 ((rd_T52 l0 x14_1).f3)) ∧ w'.cell? ⟨gb167, 4, none⟩ = some (.string ((rd_T52 l0 x14_1).f4)) ∧ w'.cell? ⟨gb167, 5, none⟩ = some (.string ((rd_T52 l0 x14_1).f5)) ∧ w'.cell? ⟨gb167, 6, none⟩ = some (.int .i64 ((rd_T52 l0 x14_1).f6)) ∧ w'.cell? ⟨go13, (((rd_T52 l0 x14_1).f1)).toNat, none⟩ = some (.int .i64 (rd y168 ((rd_T52 l0 x14_1).f1))) ∧ w'.cell? ⟨go13, (((rd_T52 l0 x14_1).f2)).toNat, none⟩ = some (.int .i64 (rd y168 ((rd_T52 l0 x14_1).f2)))) (ds := [15]) #[false, false, false, false, false, false, false, false, false, false, false, false, false, false, false, false] (by kernel_rfl) rfl rfl ⟨(blk_cell BK167.out 0).trans rfl, (blk_cell BK167.out 1).trans rfl, (blk_cell BK167.out 2).trans rfl, (blk_cell BK167.out 3).trans rfl, (blk_cell BK167.out 4).trans rfl, (blk_cell BK167.out 5).trans rfl, (blk_cell BK167.out 6).trans rfl, hx173_0, hx174_0⟩ (fun hHeld => ?_); refine with_tabW tree_Deep.tab9 tree_Deep.bits9 (fun HT_ HW_ => ?_)
                                          generalize wc.drew = w49 at HO_3 BK167 HB HQ50 hf48_0 hx173_0 hx174_0 hx48_0 hHeld ⊢
                                          refine pure_ (i := 0) (N := some 24) (v := ?_) (a' := ?_) #[true, false, false, false, false, false, false, false, false, false, false, false, false, false, false, false] rfl rfl (any_of HT_.out (by kernel_rfl)) (fun _ _ _ h => h) (Or.inl ⟨by rfl, ?_⟩) ?_ ?_
                                          rotate_left
                                          · intro w'
                                            go_simp
                                            with_reducible rfl
                                          rotate_left
                                          · simp only [Act.put, List.setIfInBounds_toArray, List.set_cons_zero, List.set_cons_succ, i64_w, i32_w]
                                            rfl
                                          refine pure_ (i := 1) (N := some 25) (v := ?_) (a' := ?_) #[true, true, false, false, false, false, false, false, false, false, false, false, false, false, false, false] rfl rfl (any_of HT_.out (by kernel_rfl)) (fun _ _ _ h => h) (Or.inl ⟨by rfl, ?_⟩) ?_ ?_
                                          rotate_left
                                          · intro w'
                                            go_simp
                                            with_reducible rfl
                                          rotate_left
                                          · simp only [Act.put, List.setIfInBounds_toArray, List.set_cons_zero, List.set_cons_succ, i64_w, i32_w]
                                            rfl
                                          refine pure_ (i := 2) (N := some 26) (v := ?_) (a' := ?_) #[true, true, true, false, false, false, false, false, false, false, false, false, false, false, false, false] rfl rfl (any_of HT_.out (by kernel_rfl)) (fun _ _ _ h => h) (Or.inl ⟨by rfl, ?_⟩) ?_ ?_
                                          rotate_left
                                          · intro w'
                                            go_simp
                                            with_reducible rfl
                                          rotate_left
                                          · simp only [Act.put, List.setIfInBounds_toArray, List.set_cons_zero, List.set_cons_succ, i64_w, i32_w]
                                            rfl
                                          refine pure_ (i := 3) (N := some 27) (v := ?_) (a' := ?_) #[true, true, true, true, false, false, false, false, false, false, false, false, false, false, false, false] rfl rfl (any_of HT_.out (by kernel_rfl)) (fun _ _ _ h => h) (Or.inl ⟨by rfl, ?_⟩) ?_ ?_
                                          rotate_left
                                          · intro w'
                                            go_simp
                                            with_reducible rfl
                                          rotate_left
                                          · simp only [Act.put, List.setIfInBounds_toArray, List.set_cons_zero, List.set_cons_succ, i64_w, i32_w]
                                            rfl
                                          refine pure_ (i := 7) (N := some 31) (v := ?_) (a' := ?_) #[true, true, true, true, false, false, false, true, false, false, false, false, false, false, false, false] rfl rfl (any_of HT_.out (by kernel_rfl)) (fun _ _ _ h => h) (Or.inl ⟨by rfl, ?_⟩) ?_ ?_
                                          rotate_left
                                          · intro w'
                                            go_simp
                                            with_reducible rfl
                                          rotate_left
                                          · simp only [Act.put, List.setIfInBounds_toArray, List.set_cons_zero, List.set_cons_succ, i64_w, i32_w]
                                            rfl
                                          refine pure_ (i := 8) (N := some 32) (v := ?_) (a' := ?_) #[true, true, true, true, false, false, false, true, true, false, false, false, false, false, false, false] rfl rfl (any_of HT_.out (by kernel_rfl)) (fun _ _ _ h => h) (Or.inl ⟨by rfl, ?_⟩) ?_ ?_
                                          rotate_left
                                          · intro w'
                                            go_simp
                                            with_reducible rfl
                                          rotate_left
                                          · simp only [Act.put, List.setIfInBounds_toArray, List.set_cons_zero, List.set_cons_succ, i64_w, i32_w]
                                            rfl
                                          refine take_ (i := 4) (N := some 28) (v := ?_) (a' := ?_) #[true, true, true, true, true, false, false, true, true, false, false, false, false, false, false, false] rfl rfl (take_ofW HT_.out HW_.out (by kernel_rfl)) (fun _ _ _ h => h) (Or.inl ⟨by rfl, ?_⟩) hHeld ?_ ?_
                                          rotate_left
                                          · rintro w' ⟨s0, s1, s2, s3, s4, s5, s6, s7, s8⟩
                                            go_simp
                                            with_reducible rfl
                                          rotate_left
                                          · simp only [Act.put, List.setIfInBounds_toArray, List.set_cons_zero, List.set_cons_succ, i64_w, i32_w]
                                            rfl
                                          refine pure_ (i := 5) (N := some 29) (v := ?_) (a' := ?_) #[true, true, true, true, true, true, false, true, true, false, false, false, false, false, false, false] rfl rfl (any_of HT_.out (by kernel_rfl)) (fun _ _ _ h => h) (Or.inl ⟨by rfl, ?_⟩) ?_ ?_
                                          rotate_left
                                          · intro w'
                                            go_simp
                                            with_reducible rfl
                                          rotate_left
                                          · simp only [Act.put, List.setIfInBounds_toArray, List.set_cons_zero, List.set_cons_succ, i64_w, i32_w]
                                            rfl
                                          refine take_ (i := 6) (N := some 30) (v := ?_) (a' := ?_) #[true, true, true, true, true, true, true, true, true, false, false, false, false, false, false, false] rfl rfl (take_ofW HT_.out HW_.out (by kernel_rfl)) (fun _ _ _ h => h) (Or.inl ⟨by rfl, ?_⟩) hHeld ?_ ?_
                                          rotate_left
                                          · rintro w' ⟨s0, s1, s2, s3, s4, s5, s6, s7, s8⟩
                                            go_simp
                                            with_reducible rfl
                                          rotate_left
                                          · simp only [Act.put, List.setIfInBounds_toArray, List.set_cons_zero, List.set_cons_succ, i64_w, i32_w]
                                            rfl
                                          refine take_ (i := 9) (N := some 33) (v := ?_) (a' := ?_) #[true, true, true, true, true, true, true, true, true, true, false, false, false, false, false, false] rfl rfl (take_ofW HT_.out HW_.out (by kernel_rfl)) (fun _ _ _ h => h) (Or.inl ⟨by rfl, ?_⟩) hHeld ?_ ?_
                                          rotate_left
                                          · rintro w' ⟨s0, s1, s2, s3, s4, s5, s6, s7, s8⟩
                                            go_simp
                                            with_reducible rfl
                                          rotate_left
                                          · simp only [Act.put, List.setIfInBounds_toArray, List.set_cons_zero, List.set_cons_succ, i64_w, i32_w]
                                            rfl
                                          refine pure_ (i := 10) (N := some 34) (v := ?_) (a' := ?_) #[true, true, true, true, true, true, true, true, true, true, true, false, false, false, false, false] rfl rfl (any_of HT_.out (by kernel_rfl)) (fun _ _ _ h => h) (Or.inl ⟨by rfl, ?_⟩) ?_ ?_
                                          rotate_left
                                          · intro w'
                                            go_simp
                                            with_reducible rfl
                                          rotate_left
                                          · simp only [Act.put, List.setIfInBounds_toArray, List.set_cons_zero, List.set_cons_succ, i64_w, i32_w]
                                            rfl
                                          refine take_ (i := 11) (N := some 35) (v := ?_) (a' := ?_) #[true, true, true, true, true, true, true, true, true, true, true, true, false, false, false, false] rfl rfl (take_ofW HT_.out HW_.out (by kernel_rfl)) (fun _ _ _ h => h) (Or.inl ⟨by rfl, ?_⟩) hHeld ?_ ?_
                                          rotate_left
                                          · rintro w' ⟨s0, s1, s2, s3, s4, s5, s6, s7, s8⟩
                                            go_simp
                                            with_reducible rfl
                                          rotate_left
                                          · simp only [Act.put, List.setIfInBounds_toArray, List.set_cons_zero, List.set_cons_succ, i64_w, i32_w]
                                            rfl
                                          refine pure_ (i := 12) (N := some 36) (v := ?_) (a' := ?_) #[true, true, true, true, true, true, true, true, true, true, true, true, true, false, false, false] rfl rfl (any_of HT_.out (by kernel_rfl)) (fun _ _ _ h => h) (Or.inl ⟨by rfl, ?_⟩) ?_ ?_
                                          rotate_left
                                          · intro w'
                                            go_simp
                                            with_reducible rfl
                                          rotate_left
                                          · simp only [Act.put, List.setIfInBounds_toArray, List.set_cons_zero, List.set_cons_succ, i64_w, i32_w]
                                            rfl
                                          refine pure_ (i := 13) (N := some 37) (v := ?_) (a' := ?_) #[true, true, true, true, true, true, true, true, true, true, true, true, true, true, false, false] rfl rfl (any_of HT_.out (by kernel_rfl)) (fun _ _ _ h => h) (Or.inl ⟨by rfl, ?_⟩) ?_ ?_
                                          rotate_left
                                          · intro w'
                                            go_simp
                                            with_reducible rfl
                                          rotate_left
                                          · simp only [Act.put, List.setIfInBounds_toArray, List.set_cons_zero, List.set_cons_succ, i64_w, i32_w]
                                            rfl
                                          refine pure_ (i := 14) (N := some 38) (v := ?_) (a' := ?_) #[true, true, true, true, true, true, true, true, true, true, true, true, true, true, true, false] rfl rfl (any_of HT_.out (by kernel_rfl)) (fun _ _ _ h => h) (Or.inl ⟨by rfl, ?_⟩) ?_ ?_
                                          rotate_left
                                          · intro w'
                                            go_simp
                                            with_reducible rfl
                                          rotate_left
                                          · simp only [Act.put, List.setIfInBounds_toArray, List.set_cons_zero, List.set_cons_succ, i64_w, i32_w]
                                            rfl
                                          refine last_ (i := 15) (N := none) #[true, true, true, true, true, true, true, true, true, true, true, true, true, true, true, true] rfl rfl (one_of HT_.out (by kernel_rfl)) (by decide) (fun K hK => ?_)
                                          refine skip_ (w1 := ?_) (by rfl) rfl ?_ ?_
                                          rotate_left
                                          · go_simp
                                            rfl
                                          refine hK.out _ _ ?_
                                          clear hK K
                                          refine done_ (done_of HT_.out (by kernel_rfl)) ?_
                                          try go_wp2
                                          (try simp only [← hl3_13])
                                          go_roundg kj13
                                          case measure => have := HK1.out; have := HJ13.out; omega
                                          case rel => exact ⟨(y175), (wrap64 (x14_1 + 1)), (by first | rfl | (simp; done) | (simp [*]; done)), H', ⟨by have := HK1.out; have := HJ13.out; omega⟩, ⟨by (try simp only [hl3_13]); (with_reducible repeat (first | apply Kd.R_alloc | apply Kd.R_drewN | apply Kd.R_drew)); exact HQ50.out⟩, ⟨by repeat (first | (with_reducible first | exact HB.out | apply below_alloc | apply pw_below_drewN | apply below_drew1 | refine below_set ?_ GB13.out | refine below_set ?_ GE167.out) | exact HB.out)⟩⟩
                                        · rw [if_neg c47] at H
                                          exact absurd H (by simp)
                                      · rw [if_neg c46] at H
                                        exact absurd H (by simp)
                                    · rw [if_neg c44] at H
                                      exact absurd H (by simp)
                                  · rw [if_neg c43] at H
                                    exact absurd H (by simp)
                                · rw [if_neg c42] at H
                                  exact absurd H (by simp)
                              · rw [if_neg c41] at H
                                exact absurd H (by simp)
                  · rw [if_neg c12] at H
                    exact absurd H (by simp)
                · rw [if_neg c11] at H
                  exact absurd H (by simp)
              · rw [if_neg c10] at H
                exact absurd H (by simp)
            · rw [if_neg c9] at H
              have c9b0 : decide (x14_1 < (l0.length : Int)) = false := decide_eq_false c9
              clear c9
              obtain ⟨ji51, hji51⟩ : ∃ j_ : Int, (wrap64 ((l0.length : Int) - 1)) = j_ := ⟨_, rfl⟩
              replace H : (if 0 ≤ (ji51) then (if (ji51) < (x3_1.length : Int) then (some (rd x3_1 (ji51))) else (none)) else (none)) = some r := by first | (rw [hji51] at H; exact H) | (simp only [hji51] at H ⊢; exact H)
              have hji51w : (IntKind.i64.wrap ((l0.length : Int) - 1)) = ji51 := (i64_w _).trans hji51
              by_cases c52 : 0 ≤ (ji51)
              · rw [if_pos c52] at H
                have c52b0 : decide (0 ≤ (ji51)) = true := decide_eq_true c52
                clear c52
                by_cases c53 : (ji51) < (x3_1.length : Int)
                · rw [if_pos c53] at H
                  have c53b0 : decide ((ji51) < (x3_1.length : Int)) = true := decide_eq_true c53
                  clear c53
                  obtain rfl := Option.some.inj H
                  obtain ⟨Ao54, co54, eo54⟩ := Kd.R_slice HO_3.out
                  subst eo54
                  have p165 : 0 ≤ ((ji51) : Int) := of_decide_eq_true (by first | (with_reducible assumption) | assumption)
                  have q165 : (ji51) < (x3_1.length : Int) := of_decide_eq_true (by first | (with_reducible assumption) | assumption)
                  obtain ⟨ad165, e165, hx165_0⟩ := Kd.at_int (Kd.R_reads' HO_3.out).2.2 (ji51) p165 q165
                  cases e165
                  replace p165 := eq_true p165
                  replace q165 := eq_true q165
                  go_wp2
                  go_ret
                  exact ⟨by first | rfl | (simp [errW_none, errW_some] <;> rfl) | (simp only [← hji51]; first | rfl | (simp [errW_none, errW_some] <;> rfl)) | (simp [*, errW_none, errW_some] <;> rfl), by repeat (first | (with_reducible first | exact HB.out | apply below_alloc | apply pw_below_drewN | apply below_drew1) | exact HB.out)⟩
                · rw [if_neg c53] at H
                  exact absurd H (by simp)
              · rw [if_neg c52] at H
                exact absurd H (by simp)
      · rw [if_neg c5] at H
        exact absurd H (by simp)
    · rw [if_neg c4] at H
      exact absurd H (by simp)
  · replace c3 := Bool.eq_false_iff.mpr c3
    subst c3
    have H1 : (some 0) = some r := by rw [if_neg (show ¬ (false = true) by decide)] at H; exact H
    clear H
    have H := H1
    clear H1
    obtain rfl := Option.some.inj H
    go_enter Tryd.func37, Tryd.ntmps37
    go_wp2_with (first | ((with_reducible refine gate_callee (f := 36) rfl ?_); refine goesL_ (some 7) rfl rfl Tryd.func36 (by kernel_rfl) rfl #[.slice A0 l0.length c0] rfl (by (try simp only [List.map_toArray, List.map_cons, List.map_nil]); first | done | rfl | (simp only [List.length_drop, List.length_take]; rfl)) ?_; (with_reducible refine (tree_Good.calls k _ _ l0 false _ ?side1 ?side2 A2.out ?sideG_).mono ?_); (case sideG_ => (first | (with_reducible exact HG_.out) | exact HG_.out.below (by repeat (first | (with_reducible first | exact HB.out | apply below_alloc | apply pw_below_drewN | apply below_drew1) | exact HB.out)))); (case side1 => repeat (first | exact HR0.out | (with_reducible refine Kd.C_alloc ?_ _) | (with_reducible refine Kd.C_drewN ?_ _) | (with_reducible refine Kd.C_drew ?_))); (case side2 => exact HC0.out); rintro e w55 ⟨rfl, hb⟩; refine ⟨_, rfl, ?_⟩; have n0_ := Aside0.mk (below_step (by repeat (first | (with_reducible first | exact HB.out | apply below_alloc | apply pw_below_drewN | apply below_drew1) | exact HB.out)) hb); clear HB; have HB := n0_; clear n0_; (try clear hb); (try clear hb2); (try clear hk); (try clear hi)))
    go_ret
    exact ⟨by first | rfl | (simp [errW_none, errW_some] <;> rfl) | (simp [*, errW_none, errW_some] <;> rfl), by repeat (first | (with_reducible first | exact HB.out | apply below_alloc | apply pw_below_drewN | apply below_drew1) | exact HB.out)⟩
def tree_Same.f (l0 l1 : List S52) : Option (Bool) := sameF l0 l1
theorem tree_Same.calls (A0 : Option Addr) (c0 : Nat) (l0 : List (S52)) (A1 : Option Addr) (c1 : Nat) (l1 : List (S52)) (r : Bool) (w : World) (hr0 : Kd.C k52 w A0 l0.length l0) (hc0 : l0.length ≤ c0) (hr1 : Kd.C k52 w A1 l1.length l1) (hc1 : l1.length ≤ c1) (h : tree_Same.f l0 l1 = some r) :
    Calls Tryd.prog 38 #[.slice A0 l0.length c0, .slice A1 l1.length c1] w fun e w' => e = .returned (.bool r) ∧ Below w.heap.size w w' := same_calls A0 c0 l0 A1 c1 l1 r w hr0 hc0 hr1 hc1 h
def nA : S52 := ⟨1, 0, 0, 0, ⟨#[49, 46, 53]⟩, ⟨#[109]⟩, 0⟩
def nB : S52 := ⟨2, 0, 0, 0, ⟨#[118]⟩, ⟨#[]⟩, 0⟩
def nC : S52 := ⟨5, 0, 1, 0, ⟨#[]⟩, ⟨#[]⟩, 0⟩
def nD : S52 := ⟨8, 2, 0, -2, ⟨#[]⟩, ⟨#[]⟩, 0⟩
def nE : S52 := ⟨7, 3, 0, 0, ⟨#[]⟩, ⟨#[]⟩, 0⟩
theorem wk1 : tree_Lit.f 20 ⟨#[49, 46, 53]⟩ ⟨#[109]⟩ = some ([nA], true) := by kernel_rfl
theorem wk2 : tree_Ref.f 20 ⟨#[118]⟩ = some ([nB], true) := by kernel_rfl
theorem wk3 : tree_Join.f 20 5 [nA] [nB] = some ([nA, nB, nC], true) := by kernel_rfl
theorem wk4 : tree_Pow.f 20 [nA, nB, nC] (-2) = some ([nA, nB, nC, nD], true) := by kernel_rfl
theorem wk5 : tree_Neg.f 20 [nA, nB, nC, nD] = some ([nA, nB, nC, nD, nE], true) := by kernel_rfl
theorem wk6 : tree_Lit.f 20 ⟨#[45, 49]⟩ ⟨#[]⟩ = some ([], false) := by kernel_rfl
theorem wk7 : tree_Pow.f 20 [nA, nB, nC] 65 = some ([], false) := by kernel_rfl
theorem wk8 : tree_Join.f 20 7 [nA] [nB] = some ([], false) := by kernel_rfl
theorem wk9 : tree_Good.f 20 [nA, nB, nC, nD, nE] = some true := by kernel_rfl
theorem wk10 : tree_Good.f 20 [nA, nB] = some false := by kernel_rfl
theorem wk12 : tree_Same.f [nA, nB, nC, nD, nE] [nA, nB, nC, nD, nE] = some true := by kernel_rfl
theorem wk11 : tree_Deep.f 20 [nA, nB, nC, nD, nE] = some 4 := by kernel_rfl
theorem cellAt {w : World} {ad : Addr} {l : List S52} {n : Nat} (h : Kd.C k52 w (some ad) n l) (j k m : Nat) (x : S52) (v : Value) (hx : l[j]? = some x) (hk : k < 7) (hv : (cS x)[k]? = some v) (hm : 7 * j + k = m + 1) : w.cell? ⟨ad.block, ad.off + (m + 1), none⟩ = some v := by
  have := readsS h (7 * j + k) v (by rw [rowS_get l j k x hx hk]; exact hv)
  rw [hm, Addr.add_succ'] at this
  exact this
theorem int_not {c : Nat} (h : 2 ≤ c) : ¬ (c : Int) < 2 := by omega
theorem int_le {c : Nat} (h : 2 ≤ c) : (2 : Int) ≤ (c : Int) := by omega
theorem five_two {c : Nat} (h : [nA, nB, nC, nD, nE].length ≤ c) : 2 ≤ c := Nat.le_trans (by decide) h
theorem C_some {w : World} {A : Option Addr} {n : Nat} {x : S52} {l : List S52} (h : Kd.C k52 w A n (x :: l)) : ∃ ad, A = some ad := by
  obtain ⟨ad, e, _⟩ := h.2.2 (by rw [← h.1]; simp)
  exact ⟨ad, e⟩
theorem C_take {w : World} {A : Option Addr} (h : Kd.C k52 w A 5 [nA, nB, nC, nD, nE]) : Kd.C k52 w A 2 [nA, nB] := by
  refine ⟨rfl, by decide, fun _ => ?_⟩
  obtain ⟨ad, rfl, hc⟩ := h.2.2 (by decide)
  refine ⟨ad, rfl, fun j p hj => hc j p ?_⟩
  match j, hj with
  | 0, hj => exact hj
  | 1, hj => exact hj
set_option maxRecDepth 20000 in
set_option maxHeartbeats 8000000 in
theorem tree_wakes_calls (w : World) (hG : Glob w) :
    Calls Tryd.prog 23 #[] w fun e w' => e = .returned (.bool true) ∧ Below w.heap.size w w' := by
  have HB0 := Lib.hid (Below.refl w.heap.size w)
  have GG : Hid (∀ w' : World, Below w.heap.size w w' → Glob w') := Lib.hid (fun w' h => hG.below h)
  clear hG
  go_enter Tryd.func23, Tryd.ntmps23
  go_wp2_with (first
   | (go_at_call 25; with_reducible refine (tree_Lit.calls 20 ⟨#[49, 46, 53]⟩ ⟨#[109]⟩ _ _ _ wk1 (GG.out _ HB0.out)).mono ?_; rintro e w1 ⟨v1, rfl, hR1, hb1⟩; obtain ⟨A1, c1, rfl, hc1, hC1⟩ := Kd.R_reads hR1; have HC1 := Lib.hid hC1; have HB1 := Lib.hid hb1; clear hR1 hC1 hb1)
   | (go_at_call 26; with_reducible refine (tree_Ref.calls 20 ⟨#[118]⟩ _ _ _ wk2 (GG.out _ HB1.out)).mono ?_; rintro e w2 ⟨v2, rfl, hR2, hb2⟩; obtain ⟨A2, c2, rfl, hc2, hC2⟩ := Kd.R_reads hR2; have HC2 := Lib.hid hC2; have HB2 := Lib.hid (bl_then HB1.out hb2); have HX2 := Lib.hid hb2; clear hR2 hC2 hb2)
   | (go_at_call 27; have K := tree_Join.calls 20 5 A1 c1 [nA] A2 c2 [nB] _ _ _ (Kd.C_below HC1.out HX2.out) hc1 HC2.out hc2 wk3 (GG.out _ HB2.out); simp only [List.length_cons, List.length_nil, Nat.zero_add, Nat.reduceAdd] at K; with_reducible refine K.mono ?_; clear K; rintro e w3 ⟨v3, rfl, hR3, hb3⟩; obtain ⟨A3, c3, rfl, hc3, hC3⟩ := Kd.R_reads hR3; have HC3 := Lib.hid hC3; have HB3 := Lib.hid (bl_then HB2.out hb3); have HX3 := Lib.hid (bl_then HX2.out hb3); have HY3 := Lib.hid hb3; clear hR3 hC3 hb3)
   | (go_at_call 29; have K := tree_Pow.calls 20 A3 c3 [nA, nB, nC] (-2) _ _ _ HC3.out hc3 wk4 (GG.out _ HB3.out); simp only [List.length_cons, List.length_nil, Nat.zero_add, Nat.reduceAdd] at K; with_reducible refine K.mono ?_; clear K; rintro e w4 ⟨v4, rfl, hR4, hb4⟩; obtain ⟨A4, c4, rfl, hc4, hC4⟩ := Kd.R_reads hR4; have HC4 := Lib.hid hC4; have HB4 := Lib.hid (bl_then HB3.out hb4); have HX4 := Lib.hid (bl_then HX3.out hb4); have HY4 := Lib.hid (bl_then HY3.out hb4); have HZ4 := Lib.hid hb4; clear hR4 hC4 hb4)
   | (go_at_call 28; have K := tree_Neg.calls 20 A4 c4 [nA, nB, nC, nD] _ _ _ HC4.out hc4 wk5 (GG.out _ HB4.out); simp only [List.length_cons, List.length_nil, Nat.zero_add, Nat.reduceAdd] at K; with_reducible refine K.mono ?_; clear K; rintro e w5 ⟨v5, rfl, hR5, hb5⟩; obtain ⟨A5, c5, rfl, hc5, hC5⟩ := Kd.R_reads hR5; have HC5 := Lib.hid hC5; have HB5 := Lib.hid (bl_then HB4.out hb5); have HX5 := Lib.hid (bl_then HX4.out hb5); have HY5 := Lib.hid (bl_then HY4.out hb5); have HZ5 := Lib.hid (bl_then HZ4.out hb5); clear hR5 hC5 hb5)
   | (go_at_call 25; with_reducible refine (tree_Lit.calls 20 ⟨#[45, 49]⟩ ⟨#[]⟩ _ _ _ wk6 (GG.out _ HB5.out)).mono ?_; rintro e w6 ⟨v6, rfl, hR6, hb6⟩; obtain ⟨A6, c6, rfl⟩ := Kd.R_slice hR6; have HB6 := Lib.hid (bl_then HB5.out hb6); have HX6 := Lib.hid (bl_then HX5.out hb6); have HY6 := Lib.hid (bl_then HY5.out hb6); have HZ6 := Lib.hid (bl_then HZ5.out hb6); have HV6 := Lib.hid hb6; clear hR6 hb6)
   | (go_at_call 29; have K := tree_Pow.calls 20 A3 c3 [nA, nB, nC] 65 _ _ _ (Kd.C_below HC3.out HZ6.out) hc3 wk7 (GG.out _ HB6.out); simp only [List.length_cons, List.length_nil, Nat.zero_add, Nat.reduceAdd] at K; with_reducible refine K.mono ?_; clear K; rintro e w7 ⟨v7, rfl, hR7, hb7⟩; obtain ⟨A7, c7, rfl⟩ := Kd.R_slice hR7; have HB7 := Lib.hid (bl_then HB6.out hb7); have HX7 := Lib.hid (bl_then HX6.out hb7); have HV7 := Lib.hid (bl_then HV6.out hb7); have HY7 := Lib.hid (bl_then HY6.out hb7); clear hR7 hb7)
   | (go_at_call 27; have K := tree_Join.calls 20 7 A1 c1 [nA] A2 c2 [nB] _ _ _ (Kd.C_below HC1.out HX7.out) hc1 (Kd.C_below HC2.out HY7.out) hc2 wk8 (GG.out _ HB7.out); simp only [List.length_cons, List.length_nil, Nat.zero_add, Nat.reduceAdd] at K; with_reducible refine K.mono ?_; clear K; rintro e w8 ⟨v8, rfl, hR8, hb8⟩; obtain ⟨A8, c8, rfl⟩ := Kd.R_slice hR8; have HB8 := Lib.hid (bl_then HB7.out hb8); have HV8 := Lib.hid (bl_then HV7.out hb8); clear hR8 hb8; have hC8 := Kd.C_below HC5.out HV8.out; obtain ⟨ad, rfl⟩ := C_some hC8; have x1 := cellAt hC8 4 0 27 nE _ rfl (by decide) rfl rfl; have x2 := cellAt hC8 3 3 23 nD _ rfl (by decide) rfl rfl; have x3 := cellAt hC8 2 1 14 nC _ rfl (by decide) rfl rfl; have x4 := cellAt hC8 2 2 15 nC _ rfl (by decide) rfl rfl; clear hC8; have q5 : 2 ≤ c5 := five_two hc5; have q6 : ¬ (c5 : Int) < 2 := int_not q5; have q7 : (2 : Int) ≤ (c5 : Int) := int_le q5)
   | (go_at_call 36; have K := tree_Good.calls 20 (some ad) c5 [nA, nB, nC, nD, nE] _ _ (Kd.C_below HC5.out HV8.out) hc5 wk9 (GG.out _ HB8.out); simp only [List.length_cons, List.length_nil, Nat.zero_add, Nat.reduceAdd] at K; with_reducible refine K.mono ?_; clear K; rintro e w9 ⟨rfl, hb9⟩; have HB9 := Lib.hid (bl_then HB8.out hb9); have HV9 := Lib.hid (bl_then HV8.out hb9); clear hb9)
   | (go_at_call 36; have K := tree_Good.calls 20 (some ad) c5 [nA, nB] _ _ (C_take (Kd.C_below HC5.out HV9.out)) (five_two hc5) wk10 (GG.out _ HB9.out); simp only [List.length_cons, List.length_nil, Nat.zero_add, Nat.reduceAdd] at K; with_reducible refine K.mono ?_; clear K; rintro e wa ⟨rfl, hba⟩; have HBa := Lib.hid (bl_then HB9.out hba); have HVa := Lib.hid (bl_then HV9.out hba); clear hba)
   | (go_at_call 37; have K := tree_Deep.calls 20 (some ad) c5 [nA, nB, nC, nD, nE] _ _ (Kd.C_below HC5.out HVa.out) hc5 wk11 (GG.out _ HBa.out); simp only [List.length_cons, List.length_nil, Nat.zero_add, Nat.reduceAdd] at K; with_reducible refine K.mono ?_; clear K; rintro e wb ⟨rfl, hbb⟩; have HBb := Lib.hid (bl_then HBa.out hbb); have HVb := Lib.hid (bl_then HVa.out hbb); clear hbb)
   | (go_at_call 38; have K := tree_Same.calls (some ad) c5 [nA, nB, nC, nD, nE] (some ad) c5 [nA, nB, nC, nD, nE] _ _ (Kd.C_below HC5.out HVb.out) hc5 (Kd.C_below HC5.out HVb.out) hc5 wk12; simp only [List.length_cons, List.length_nil, Nat.zero_add, Nat.reduceAdd] at K; with_reducible refine K.mono ?_; clear K; rintro e wc ⟨rfl, hbc⟩; have HBc := Lib.hid (bl_then HBb.out hbc); clear hbc))
  go_ret
  exact ⟨rfl, HBc.out⟩
def steelyardlaw14_wakes.f : Option Bool := some true
theorem steelyardlaw14_wakes.calls (r : Bool) (w : World) (h : steelyardlaw14_wakes.f = some r) (hG : Glob w) :
    Calls Tryd.prog 23 #[] w fun e w' => e = .returned (.bool r) ∧ Below w.heap.size w w' := by
  obtain rfl := Option.some.inj h
  exact tree_wakes_calls w hG
def steelyardkeep_OwnTree.f (l0 : List (S52)) : Option ((List (S52))) := (some (([] : List (S52)) : List (S52))).bind fun y176 => (if y176.length + l0.length < 1954687338268 then (some (y176 ++ l0)) else (none))
def steelyardref14_Begin.f (l0 : List S52) : Option (List Int) := refBeginF l0
theorem steelyardref14_Begin.calls (A0 : Option Addr) (c0 : Nat) (l0 : List (S52)) (r : List Int) (w : World) (hr0 : Kd.C k52 w A0 l0.length l0) (hc0 : l0.length ≤ c0) (h : steelyardref14_Begin.f l0 = some r) :
    Calls Tryd.prog 63 #[.slice A0 l0.length c0] w fun e w' => ∃ v0_ : Value, e = .returned (v0_) ∧ Kd.R (Kd.int .i64) 3 w' w.heap.size (fun _ => True) v0_ r ∧ Below w.heap.size w w' := rbegin_calls A0 c0 l0 r w hr0 hc0 h
def steelyardref14_Good.f (l0 : List (S52)) : Option (Bool) := if (l0.length : Int) < 1 then (some false) else (if (l0.length : Int) > 2000 then (some false) else ((steelyardref14_Begin.f l0).bind fun t182 => (if (t182.length : Int) = (l0.length : Int) then (if 0 ≤ (wrap64 ((l0.length : Int) - 1)) then (if (wrap64 ((l0.length : Int) - 1)) < (t182.length : Int) then (some ((rd t182 (wrap64 ((l0.length : Int) - 1))) == 0)) else (none)) else (none)) else (some false))))
set_option maxHeartbeats 8000000 in
set_option maxRecDepth 100000 in
theorem steelyardref14_Good.calls (A0 : Option Addr) (c0 : Nat) (l0 : List (S52)) (r : Bool) (w : World) (hr0 : Kd.C k52 w A0 l0.length l0) (hc0 : l0.length ≤ c0) (h : steelyardref14_Good.f l0 = some r) :
    Calls Tryd.prog 34 #[.slice A0 l0.length c0] w fun e w' => e = .returned (.bool r) ∧ Below w.heap.size w w' := by
  have HR0 := Aside0.mk hr0
  have HC0 := Aside0.mk hc0
  clear hr0 hc0
  have HB := Aside0.mk (Below.refl w.heap.size w)
  have H : (if (l0.length : Int) < 1 then (some false) else (if (l0.length : Int) > 2000 then (some false) else ((steelyardref14_Begin.f l0).bind fun t182 => (if (t182.length : Int) = (l0.length : Int) then (if 0 ≤ (wrap64 ((l0.length : Int) - 1)) then (if (wrap64 ((l0.length : Int) - 1)) < (t182.length : Int) then (some ((rd t182 (wrap64 ((l0.length : Int) - 1))) == 0)) else (none)) else (none)) else (some false))))) = some r := h
  clear h
  by_cases c2 : (l0.length : Int) < 1
  · rw [if_pos c2] at H
    have c2b0 : decide ((l0.length : Int) < 1) = true := decide_eq_true c2
    have c2b1 : decide (l0.length < 1) = true := decide_eq_true (by omega)
    clear c2
    obtain rfl := Option.some.inj H
    go_enter Tryd.func34, Tryd.ntmps34
    go_wp2
    go_ret
    exact ⟨by first | rfl | (simp [errW_none, errW_some] <;> rfl) | (simp [*, errW_none, errW_some] <;> rfl), by repeat (first | (with_reducible first | exact HB.out | apply below_alloc | apply pw_below_drewN | apply below_drew1) | exact HB.out)⟩
  · rw [if_neg c2] at H
    have c2b0 : decide ((l0.length : Int) < 1) = false := decide_eq_false c2
    have c2b1 : decide (l0.length < 1) = false := decide_eq_false (by omega)
    clear c2
    by_cases c3 : (l0.length : Int) > 2000
    · rw [if_pos c3] at H
      have c3b0 : decide (2000 < (l0.length : Int)) = true := decide_eq_true c3
      have c3b1 : decide (2000 < l0.length) = true := decide_eq_true (by omega)
      clear c3
      obtain rfl := Option.some.inj H
      go_enter Tryd.func34, Tryd.ntmps34
      go_wp2
      go_ret
      exact ⟨by first | rfl | (simp [errW_none, errW_some] <;> rfl) | (simp [*, errW_none, errW_some] <;> rfl), by repeat (first | (with_reducible first | exact HB.out | apply below_alloc | apply pw_below_drewN | apply below_drew1) | exact HB.out)⟩
    · rw [if_neg c3] at H
      have c3b0 : decide (2000 < (l0.length : Int)) = false := decide_eq_false c3
      have c3b1 : decide (2000 < l0.length) = false := decide_eq_false (by omega)
      clear c3
      replace H := Option.bind_eq_some_iff.mp H
      obtain ⟨t182, A40, H⟩ := H
      replace H : (if (t182.length : Int) = (l0.length : Int) then (if 0 ≤ (wrap64 ((l0.length : Int) - 1)) then (if (wrap64 ((l0.length : Int) - 1)) < (t182.length : Int) then (some ((rd t182 (wrap64 ((l0.length : Int) - 1))) == 0)) else (none)) else (none)) else (some false)) = some r := H
      have A4 := Aside0.mk A40
      clear A40
      by_cases c5 : (t182.length : Int) = (l0.length : Int)
      · rw [if_pos c5] at H
        have c5b0 : ((t182.length : Int) == (l0.length : Int)) = true := beq_iff_eq.mpr c5
        have c5b1 : ((t182.length : Int) != (l0.length : Int)) = false := bne_eq_false_iff_eq.mpr c5
        have c5b2 : (t182.length == l0.length) = true := by first | simpa using c5 | (simp at c5 ⊢; omega)
        clear c5
        obtain ⟨ji6, hji6⟩ : ∃ j_ : Int, (wrap64 ((l0.length : Int) - 1)) = j_ := ⟨_, rfl⟩
        replace H : (if 0 ≤ (ji6) then (if (ji6) < (t182.length : Int) then (some ((rd t182 (ji6)) == 0)) else (none)) else (none)) = some r := by first | (rw [hji6] at H; exact H) | (simp only [hji6] at H ⊢; exact H)
        (try rw [hji6] at A4)
        have hji6w : (IntKind.i64.wrap ((l0.length : Int) - 1)) = ji6 := (i64_w _).trans hji6
        by_cases c7 : 0 ≤ (ji6)
        · rw [if_pos c7] at H
          have c7b0 : decide (0 ≤ (ji6)) = true := decide_eq_true c7
          clear c7
          by_cases c8 : (ji6) < (t182.length : Int)
          · rw [if_pos c8] at H
            have c8b0 : decide ((ji6) < (t182.length : Int)) = true := decide_eq_true c8
            clear c8
            obtain rfl := Option.some.inj H
            go_enter Tryd.func34, Tryd.ntmps34
            go_wp2_with (first | ((with_reducible refine gate_callee (f := 63) rfl ?_); refine goesL_ (some 13) rfl rfl Tryd.func63 (by kernel_rfl) rfl #[.slice A0 l0.length c0] rfl (by (try simp only [List.map_toArray, List.map_cons, List.map_nil]); first | done | rfl | (simp only [List.length_drop, List.length_take]; rfl)) ?_; (with_reducible refine (steelyardref14_Begin.calls _ _ l0 t182 _ ?side1 ?side2 A4.out).mono ?_); (case side1 => repeat (first | exact HR0.out | (with_reducible refine Kd.C_alloc ?_ _) | (with_reducible refine Kd.C_drewN ?_ _) | (with_reducible refine Kd.C_drew ?_))); (case side2 => exact HC0.out); rintro e w9 ⟨v183, rfl, ho0, hb⟩; refine ⟨_, rfl, ?_⟩; have n0_ := Aside0.mk (Kd.R_lower ho0 (below_size (by repeat (first | (with_reducible first | exact HB.out | apply below_alloc | apply pw_below_drewN | apply below_drew1) | exact HB.out)))); have n1_ := Aside0.mk (below_step (by repeat (first | (with_reducible first | exact HB.out | apply below_alloc | apply pw_below_drewN | apply below_drew1) | exact HB.out)) hb); clear HB; have HO184 := n0_; have HB := n1_; clear n0_ n1_; (try clear hb); (try clear hb2); (try clear hk); (try clear hi); (try clear ho0); obtain ⟨Ao10, co10, eo10⟩ := Kd.R_slice HO184.out; subst eo10; have p185 : 0 ≤ ((ji6) : Int) := of_decide_eq_true (by first | (with_reducible assumption) | assumption); have q185 : (ji6) < (t182.length : Int) := of_decide_eq_true (by first | (with_reducible assumption) | assumption); obtain ⟨ad185, e185, hx185_0⟩ := Kd.at_int (Kd.R_reads' HO184.out).2.2 (ji6) p185 q185; cases e185; replace p185 := eq_true p185; replace q185 := eq_true q185))
            go_ret
            exact ⟨by first | rfl | (simp [errW_none, errW_some] <;> rfl) | (simp only [← hji6]; first | rfl | (simp [errW_none, errW_some] <;> rfl)) | (simp [*, errW_none, errW_some] <;> rfl), by repeat (first | (with_reducible first | exact HB.out | apply below_alloc | apply pw_below_drewN | apply below_drew1) | exact HB.out)⟩
          · rw [if_neg c8] at H
            exact absurd H (by simp)
        · rw [if_neg c7] at H
          exact absurd H (by simp)
      · rw [if_neg c5] at H
        have c5b0 : ((t182.length : Int) == (l0.length : Int)) = false := beq_eq_false_iff_ne.mpr c5
        have c5b1 : ((t182.length : Int) != (l0.length : Int)) = true := bne_iff_ne.mpr c5
        have c5b2 : (t182.length == l0.length) = false := by first | simpa using c5 | (simp at c5 ⊢; omega)
        obtain rfl := Option.some.inj H
        go_enter Tryd.func34, Tryd.ntmps34
        go_wp2_with (first | ((with_reducible refine gate_callee (f := 63) rfl ?_); refine goesL_ (some 13) rfl rfl Tryd.func63 (by kernel_rfl) rfl #[.slice A0 l0.length c0] rfl (by (try simp only [List.map_toArray, List.map_cons, List.map_nil]); first | done | rfl | (simp only [List.length_drop, List.length_take]; rfl)) ?_; (with_reducible refine (steelyardref14_Begin.calls _ _ l0 t182 _ ?side1 ?side2 A4.out).mono ?_); (case side1 => repeat (first | exact HR0.out | (with_reducible refine Kd.C_alloc ?_ _) | (with_reducible refine Kd.C_drewN ?_ _) | (with_reducible refine Kd.C_drew ?_))); (case side2 => exact HC0.out); rintro e w11 ⟨v183, rfl, ho0, hb⟩; refine ⟨_, rfl, ?_⟩; have n0_ := Aside0.mk (Kd.R_lower ho0 (below_size (by repeat (first | (with_reducible first | exact HB.out | apply below_alloc | apply pw_below_drewN | apply below_drew1) | exact HB.out)))); have n1_ := Aside0.mk (below_step (by repeat (first | (with_reducible first | exact HB.out | apply below_alloc | apply pw_below_drewN | apply below_drew1) | exact HB.out)) hb); clear HB; have HO184 := n0_; have HB := n1_; clear n0_ n1_; (try clear hb); (try clear hb2); (try clear hk); (try clear hi); (try clear ho0); obtain ⟨Ao12, co12, eo12⟩ := Kd.R_slice HO184.out; subst eo12))
        go_ret
        exact ⟨by first | rfl | (simp [errW_none, errW_some] <;> rfl) | (simp [*, errW_none, errW_some] <;> rfl), by repeat (first | (with_reducible first | exact HB.out | apply below_alloc | apply pw_below_drewN | apply below_drew1) | exact HB.out)⟩
end Go.Proofs.YtcajdkncohcaeaaDoor.GTree
