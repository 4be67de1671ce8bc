import Derived.Test.YtcajdkncohcaeaaDoorYTrI
import Derived.Test.YtcajdkncohcaeaaDoorYGTree0
import Derived.Test.YtcajdkncohcaeaaDoorYGTree4
namespace Go.Proofs.YtcajdkncohcaeaaDoor.GTree
open Go.RowKit Go.Proofs.YtcajdkncohcaeaaDoorW.PrintWords Go.Proofs.YtcajdkncohcaeaaDoorW.PrintLast Go.Proofs.YtcajdkncohcaeaaDoorW.PrintMore
attribute [local go_sem] max2_int min2_int max_two min_two max_three min_three max_four min_four   -- for this text's walks alone
set_option linter.unusedVariables false
set_option linter.unusedSimpArgs false
def steelyardref14_whole.f (l0 : List (S52)) : Option ((List (S52))) := (steelyardref14_Good.f l0).bind fun t186 => (if t186 = true then (some l0) else (some ([] : List (S52))))
set_option maxHeartbeats 8000000 in
set_option maxRecDepth 100000 in
theorem steelyardref14_whole.calls (P0_ : Nat → Prop) (u9000_ : Value) (l0 : List (S52)) (r : List (S52)) (w0 w : World) (hB : Below w0.heap.size w0 w) (ho0 : Kd.R k52 52 w w0.heap.size P0_ u9000_ l0) (h : steelyardref14_whole.f l0 = some r) :
 Calls Tryd.prog 62 #[u9000_] w fun e w' => ∃ v0_ : Value,e = .returned (v0_) ∧ Kd.R k52 52 w' w0.heap.size (fun k_ => (P0_ k_ ∨ w.heap.size ≤ k_)) v0_ r ∧ Below w0.heap.size w0 w' ∧ Kept w w' (fun k_ => P0_ k_) := by
 have HO0 := Aside0.mk (show Kd.R k52 52 w w0.heap.size (fun k_ => (P0_ k_ ∨ w.heap.size ≤ k_)) u9000_ l0 from Kd.R_mono ho0 (fun k_ hk => (.inl hk)))
 have HK := Aside0.mk (Kept.refl w (fun k_ => P0_ k_))
 have HW0 := Aside0.mk hB.size
 have HB := Aside0.mk hB
 clear hB
 have H : ((steelyardref14_Good.f l0).bind fun t186 => (if t186 = true then (some l0) else (some ([] : List (S52))))) = some r := h
 clear h
 replace H := Option.bind_eq_some_iff.mp H
 obtain ⟨t186,A20,H⟩ := H
 replace H : (if t186 = true then (some l0) else (some ([] : List (S52)))) = some r := H
 have A2 := Aside0.mk A20
 clear A20
 by_cases c3 : t186 = true
 ·subst c3
  have H1 : (some l0) = some r := by rw [if_pos rfl] at H;exact H
  clear H
  have H := H1
  clear H1
  obtain rfl := Option.some.inj H
  obtain ⟨Ao4,co4,eo4⟩ := Kd.R_slice HO0.out
  subst eo4
  go_enter Tryd.func62,Tryd.ntmps62
  go_wp2_with (first | ((with_reducible refine gate_callee (f := 34) rfl ?_);refine goesL_ (some 4) rfl rfl Tryd.func34 (by kernel_rfl) rfl #[.slice Ao4 l0.length co4] rfl (by (try simp only [List.map_toArray,List.map_cons,List.map_nil]);first | done | rfl | (simp only [List.length_drop,List.length_take];rfl)) ?_;(with_reducible refine (steelyardref14_Good.calls _ _ l0 true _ ?side1 ?side2 A2.out).mono ?_);(case side1 => repeat (first | exact (Kd.R_reads' HO0.out).2.2 | (with_reducible refine Kd.C_alloc ?_ _) | (with_reducible refine Kd.C_drewN ?_ _) | (with_reducible refine Kd.C_drew ?_)));(case side2 => exact (Kd.R_reads' HO0.out).2.1);rintro e w5 ⟨rfl,hb⟩;refine ⟨_,rfl,?_⟩;have n0_ := Aside0.mk (Kd.R_below (by (with_reducible repeat (first | apply Kd.R_alloc | apply Kd.R_drewN | apply Kd.R_drew));exact HO0.out) hb);have n1_ := Aside0.mk (Kept.below (S := (fun k_ => P0_ k_)) (by repeat (first | (with_reducible first | exact HK.out | apply Kept.alloc | apply Kept.drewN | apply Kept.drew) | exact HK.out)) hb);have n2_ := Aside0.mk (below_step (by repeat (first | (with_reducible first | exact HB.out | apply below_alloc | apply pw_below_drewN | apply below_drew1) | exact HB.out)) hb);clear HO0;clear HK;clear HB;have HO0 := n0_;have HK := n1_;have HB := n2_;clear n0_ n1_ n2_;(try clear hb);(try clear hb2);(try clear hk);(try clear hi)))
  go_ret
  exact ⟨_,by first | rfl | (simp [errW_none,errW_some] <;> rfl) | (simp [*,errW_none,errW_some] <;> rfl),by (with_reducible repeat (first | apply Kd.R_alloc | apply Kd.R_drewN | apply Kd.R_drew));exact HO0.out,by repeat (first | (with_reducible first | exact HB.out | apply below_alloc | apply pw_below_drewN | apply below_drew1) | exact HB.out),by repeat (first | (with_reducible first | exact HK.out | apply Kept.alloc | apply Kept.drewN | apply Kept.drew) | exact HK.out)⟩
 ·replace c3 := Bool.eq_false_iff.mpr c3
  subst c3
  have H1 : (some ([] : List (S52))) = some r := by rw [if_neg (show ¬ (false = true) by decide)] at H;exact H
  clear H
  have H := H1
  clear H1
  obtain rfl := Option.some.inj H
  obtain ⟨Ao6,co6,eo6⟩ := Kd.R_slice HO0.out
  subst eo6
  go_enter Tryd.func62,Tryd.ntmps62
  go_wp2_with (first | ((with_reducible refine gate_callee (f := 34) rfl ?_);refine goesL_ (some 4) rfl rfl Tryd.func34 (by kernel_rfl) rfl #[.slice Ao6 l0.length co6] rfl (by (try simp only [List.map_toArray,List.map_cons,List.map_nil]);first | done | rfl | (simp only [List.length_drop,List.length_take];rfl)) ?_;(with_reducible refine (steelyardref14_Good.calls _ _ l0 false _ ?side1 ?side2 A2.out).mono ?_);(case side1 => repeat (first | exact (Kd.R_reads' HO0.out).2.2 | (with_reducible refine Kd.C_alloc ?_ _) | (with_reducible refine Kd.C_drewN ?_ _) | (with_reducible refine Kd.C_drew ?_)));(case side2 => exact (Kd.R_reads' HO0.out).2.1);rintro e w7 ⟨rfl,hb⟩;refine ⟨_,rfl,?_⟩;have n0_ := Aside0.mk (Kd.R_below (by (with_reducible repeat (first | apply Kd.R_alloc | apply Kd.R_drewN | apply Kd.R_drew));exact HO0.out) hb);have n1_ := Aside0.mk (Kept.below (S := (fun k_ => P0_ k_)) (by repeat (first | (with_reducible first | exact HK.out | apply Kept.alloc | apply Kept.drewN | apply Kept.drew) | exact HK.out)) hb);have n2_ := Aside0.mk (below_step (by repeat (first | (with_reducible first | exact HB.out | apply below_alloc | apply pw_below_drewN | apply below_drew1) | exact HB.out)) hb);clear HO0;clear HK;clear HB;have HO0 := n0_;have HK := n1_;have HB := n2_;clear n0_ n1_ n2_;(try clear hb);(try clear hb2);(try clear hk);(try clear hi)))
  go_ret
  exact ⟨_,by first | rfl | (simp [errW_none,errW_some] <;> rfl) | (simp [*,errW_none,errW_some] <;> rfl),by first | exact Kd.R_nil _ _ _ _ _ | exact Kd.N_nil _ _ _ _ _ | exact Kd.V_nil _ _ _ _ _ | exact Kd.Q_nil _ _ _ _ _ | exact Kd.S_nil _ _ _ _ _,by repeat (first | (with_reducible first | exact HB.out | apply below_alloc | apply pw_below_drewN | apply below_drew1) | exact HB.out),by repeat (first | (with_reducible first | exact HK.out | apply Kept.alloc | apply Kept.drewN | apply Kept.drew) | exact HK.out)⟩
def steelyardref14_Leaf.f (a0_0 : Int) (a0_1 : Int) (a0_2 : Int) (a0_3 : Int) (a0_4 : ByteArray) (a0_5 : ByteArray) (a0_6 : Int) : Option ((List (S52))) := (steelyardref14_whole.f (([(⟨a0_0,a0_1,a0_2,a0_3,a0_4,a0_5,a0_6⟩ : S52)] : List (S52)))).bind fun t191 => (some t191)
set_option maxHeartbeats 8000000 in
set_option maxRecDepth 100000 in
theorem steelyardref14_Leaf.calls (a0_0 : Int) (a0_1 : Int) (a0_2 : Int) (a0_3 : Int) (a0_4 : ByteArray) (a0_5 : ByteArray) (a0_6 : Int) (r : List (S52)) (w : World) (h : steelyardref14_Leaf.f a0_0 a0_1 a0_2 a0_3 a0_4 a0_5 a0_6 = some r) :
 Calls Tryd.prog 30 #[.agg #[.int .i64 a0_0,.int .i64 a0_1,.int .i64 a0_2,.int .i64 a0_3,.string a0_4,.string a0_5,.int .i64 a0_6]] w fun e w' => ∃ v0_ : Value,e = .returned (v0_) ∧ Kd.R k52 52 w' w.heap.size (fun _ => True) v0_ r ∧ Below w.heap.size w w' := by
 have hu52 := Tryd.underlying52
 have HB := Aside0.mk (Below.refl w.heap.size w)
 have H : ((steelyardref14_whole.f (([(⟨a0_0,a0_1,a0_2,a0_3,a0_4,a0_5,a0_6⟩ : S52)] : List (S52)))).bind fun t191 => (some t191)) = some r := h
 clear h
 obtain ⟨y188,hy188⟩ : ∃ y_ : List (S52),y_ = (([(⟨a0_0,a0_1,a0_2,a0_3,a0_4,a0_5,a0_6⟩ : S52)] : List (S52))) := ⟨_,rfl⟩
 replace H : ((steelyardref14_whole.f y188).bind fun t191 => (some t191)) = some r := by first | (rw [hy188];with_reducible exact H) | (have H2_ := (Option.bind_some _ _).symm.trans H;rw [hy188];with_reducible exact H2_) | (have H2_ := (Option.bind_some _ _).symm.trans H;with_reducible exact H2_) | with_reducible exact H | (rw [hy188];exact H) | exact H
 have Ny188 := Aside0.mk hy188
 clear hy188
 replace H := Option.bind_eq_some_iff.mp H
 obtain ⟨t191,A20,H⟩ := H
 replace H : (some t191) = some r := H
 have A2 := Aside0.mk A20
 clear A20
 obtain rfl := Option.some.inj H
 go_enter Tryd.func30,Tryd.ntmps30
 go_wp2_with (first | ((with_reducible refine gate_dst (N := 1) rfl ?_);refine box_event ?hg (N := 1) ?hd (cs := #[.int .i64 a0_0,.int .i64 a0_1,.int .i64 a0_2,.int .i64 a0_3,.string a0_4,.string a0_5,.int .i64 a0_6]) (t := 52) ?hr ?_;(case hd => rfl);(case hg => rfl);(case hr => first | (go_simp;done) | (go_simp;rfl));intro gb187 hg w3 hbox hb;have n0_ := Aside0.mk (below_step (by repeat (first | (with_reducible first | exact HB.out | apply below_alloc | apply pw_below_drewN | apply below_drew1) | exact HB.out)) hb);have n1_ := Aside0.mk (hbox);have n2_ := Aside0.mk ((by rw [hg];exact (below_size (by repeat (first | (with_reducible first | exact HB.out | apply below_alloc | apply pw_below_drewN | apply below_drew1) | exact HB.out))) : w.heap.size ≤ gb187));have n3_ := Aside0.mk ((by rw [hg];exact (below_size (by repeat (first | (with_reducible first | exact HB.out | apply below_alloc | apply pw_below_drewN | apply below_drew1) | exact HB.out))) : w.heap.size ≤ gb187));clear HB;have HB := n0_;have BK187 := n1_;have GW187 := n2_;have GE187 := n3_;clear n0_ n1_ n2_ n3_;clear hb hbox hg;have hcz4_0 : w3.cell? ⟨gb187,0,none⟩ = some (.int .i64 a0_0) := (blk_cell BK187.out 0).trans rfl;have hcz4_1 : w3.cell? ⟨gb187,1,none⟩ = some (.int .i64 a0_1) := (blk_cell BK187.out 1).trans rfl;have hcz4_2 : w3.cell? ⟨gb187,2,none⟩ = some (.int .i64 a0_2) := (blk_cell BK187.out 2).trans rfl;have hcz4_3 : w3.cell? ⟨gb187,3,none⟩ = some (.int .i64 a0_3) := (blk_cell BK187.out 3).trans rfl;have hcz4_4 : w3.cell? ⟨gb187,4,none⟩ = some (.string a0_4) := (blk_cell BK187.out 4).trans rfl;have hcz4_5 : w3.cell? ⟨gb187,5,none⟩ = some (.string a0_5) := (blk_cell BK187.out 5).trans rfl;have hcz4_6 : w3.cell? ⟨gb187,6,none⟩ = some (.int .i64 a0_6) := (blk_cell BK187.out 6).trans rfl;have hfz4_0 := blk_frozen BK187.out 0;have hfz4_1 := blk_frozen BK187.out 1;have hfz4_2 := blk_frozen BK187.out 2;have hfz4_3 := blk_frozen BK187.out 3;have hfz4_4 := blk_frozen BK187.out 4;have hfz4_5 := blk_frozen BK187.out 5;have hfz4_6 := blk_frozen BK187.out 6) | ((with_reducible refine gate_dst (N := 4) rfl ?_);refine Kd.R_lit k52 _ 52 ?hg (N := 4) ?hd (xs := ([(⟨a0_0,a0_1,a0_2,a0_3,a0_4,a0_5,a0_6⟩ : S52)] : List (S52))) (inner := [.int .i64 a0_0,.int .i64 a0_1,.int .i64 a0_2,.int .i64 a0_3,.string a0_4,.string a0_5,.int .i64 a0_6]) (ok := fun _ => True) (okp := fun _ => True) ?hr ?hp (fun _ hk => hk) trivial (Below.refl _ _) (Nat.le_refl _) (by simp) ?_;(case hd => rfl);(case hg => rfl);(case hr => first | (go_simp;done) | (go_simp;rfl));(case hp => exact (Reps.c7 (show Kd.M k52 _ _ _ (⟨a0_0,a0_1,a0_2,a0_3,a0_4,a0_5,a0_6⟩ : S52) [.int .i64 a0_0,.int .i64 a0_1,.int .i64 a0_2,.int .i64 a0_3,.string a0_4,.string a0_5,.int .i64 a0_6] from (k52_mkM _ _ _ (⟨a0_0,a0_1,a0_2,a0_3,a0_4,a0_5,a0_6⟩ : S52) )) (Reps.none _ _)));intro v189 w5 ho6 hb hg_ hnew_;clear hg_ hnew_;(first | rw [← Ny188.out] at ho6 | (simp only [Int.reduceToNat] at ho6;rw [← Ny188.out] at ho6));have n0_ := Aside0.mk (Kd.R_lower (Kd.R_newB ho6 (g := gb187) (o := .cells #[.int .i64 a0_0,.int .i64 a0_1,.int .i64 a0_2,.int .i64 a0_3,.string a0_4,.string a0_5,.int .i64 a0_6] 52 (0,0)) (by (with_reducible repeat (first | refine blk_drewN ?_ _ | refine blk_drew ?_ | refine blk_alloc ?_ _));exact BK187.out)) (below_size (by repeat (first | (with_reducible first | exact HB.out | apply below_alloc | apply pw_below_drewN | apply below_drew1 | refine below_set ?_ GE187.out) | exact HB.out))));have n1_ := Aside0.mk (blk_below (g := gb187) (o := .cells #[.int .i64 a0_0,.int .i64 a0_1,.int .i64 a0_2,.int .i64 a0_3,.string a0_4,.string a0_5,.int .i64 a0_6] 52 (0,0)) (by (with_reducible repeat (first | refine blk_drewN ?_ _ | refine blk_drew ?_ | refine blk_alloc ?_ _));exact BK187.out) hb);have n2_ := Aside0.mk (below_step (by repeat (first | (with_reducible first | exact HB.out | apply below_alloc | apply pw_below_drewN | apply below_drew1 | refine below_set ?_ GE187.out) | exact HB.out)) hb);clear BK187;clear HB;have HO190 := n0_;have BK187 := n1_;have HB := n2_;clear n0_ n1_ n2_;clear hb ho6;obtain ⟨Ao7,co7,eo7⟩ := Kd.R_slice HO190.out;subst eo7) | ((with_reducible refine gate_callee (f := 62) rfl ?_);refine goesL_ (some 5) rfl rfl Tryd.func62 (by kernel_rfl) rfl #[.slice Ao7 y188.length co7] rfl (by (try simp only [List.map_toArray,List.map_cons,List.map_nil]);first | done | rfl | (simp only [List.length_drop,List.length_take];rfl)) ?_;(with_reducible refine (steelyardref14_whole.calls (fun k_ => some k_ = (.slice Ao7 y188.length co7 : Value).ownBlock) (.slice Ao7 y188.length co7) y188 t191 w _ ?side1 ?side2 A2.out).mono ?_);(case side1 => repeat (first | (with_reducible first | exact HB.out | apply below_alloc | apply pw_below_drewN | apply below_drew1 | refine below_set ?_ GE187.out) | exact HB.out));(case side2 => exact Kd.R_tight rfl HO190.out);rintro e w8 ⟨v192,rfl,ho0,hb,hkp⟩;refine ⟨_,rfl,?_⟩;have n0_ := Aside0.mk (blk_kept (by (with_reducible repeat (first | refine blk_drewN ?_ _ | refine blk_drew ?_ | refine blk_alloc ?_ _));exact BK187.out) hkp (fun hs_ => (fun e_ => (Kd.R_away HO190.out (fun _ hk => hk.2)) e_) hs_));have n1_ := Aside0.mk (Kd.R_mono (ok' := fun k_ => k_ ≠ gb187) ho0 (fun k_ hk_ => Or.elim hk_ (fun hs_ => fun e_ => (Kd.R_away HO190.out (fun _ hk => hk.2)) (by rw [← e_];exact hs_)) (fun hn_ => (Kd.freshB (g := gb187) (o := .cells #[.int .i64 a0_0,.int .i64 a0_1,.int .i64 a0_2,.int .i64 a0_3,.string a0_4,.string a0_5,.int .i64 a0_6] 52 (0,0)) (by (with_reducible repeat (first | refine blk_drewN ?_ _ | refine blk_drew ?_ | refine blk_alloc ?_ _));exact BK187.out) k_ hn_))));have n2_ := Aside0.mk (hb);clear BK187;clear HB;clear HO190;have BK187 := n0_;have HO193 := n1_;have HB := n2_;clear n0_ n1_ n2_;(try clear hb);(try clear hkp);(try clear ho0)))
 go_ret
 exact ⟨_,by first | rfl | (simp [errW_none,errW_some] <;> rfl) | (simp [*,errW_none,errW_some] <;> rfl),by (with_reducible repeat (first | apply Kd.R_alloc | apply Kd.R_drewN | apply Kd.R_drew));exact Kd.R_mono HO193.out (fun _ hk => trivial),by repeat (first | (with_reducible first | exact HB.out | apply below_alloc | apply pw_below_drewN | apply below_drew1 | refine below_set ?_ GE187.out) | exact HB.out)⟩
def steelyardref14_Two.f (a0 : Int) : Option Bool := some (twoK a0)
theorem steelyardref14_Two.calls (a0 : Int) (r : Bool) (w : World) (h : steelyardref14_Two.f a0 = some r) : Calls Tryd.prog 40 #[.int .i64 a0] w fun e w' => e = .returned (.bool r) ∧ Below w.heap.size w w' := two_calls a0 r w h
mutual
def steelyardref14_Join.j0 : Nat → Int → List (S52) → List (S52) → Bool → Option ((List (S52)))
 | 0,_,_,_,_ => none
 | k + 1,x0,x1,x2,x22 => if x22 = true then (some ([] : List (S52))) else ((some (([] : List (S52)) : List (S52))).bind fun y197 => (if y197.length + x1.length < 1954687338268 then (steelyardref14_Join.l0 k x0 x1 x2 (y197 ++ x1) 0) else (none)))
def steelyardref14_Join.l0 : Nat → Int → List (S52) → List (S52) → List (S52) → Int → Option ((List (S52)))
 | 0,_,_,_,_,_ => none
 | k + 1,x0,x1,x2,x7,x8 => if x8 < (x2.length : Int) then (if 0 ≤ x8 then ((steelyardref14_Two.f ((rd_T52 x2 x8).f0)).bind fun t211 => (if t211 = true then (steelyardref14_Join.j2 k x0 x1 x2 x7 x8 true ((rd_T52 x2 x8).f0) ((rd_T52 x2 x8).f1) ((rd_T52 x2 x8).f2) ((rd_T52 x2 x8).f3) ((rd_T52 x2 x8).f4) ((rd_T52 x2 x8).f5) ((rd_T52 x2 x8).f6)) else (if ((rd_T52 x2 x8).f0) = 7 then (steelyardref14_Join.j2 k x0 x1 x2 x7 x8 true ((rd_T52 x2 x8).f0) ((rd_T52 x2 x8).f1) ((rd_T52 x2 x8).f2) ((rd_T52 x2 x8).f3) ((rd_T52 x2 x8).f4) ((rd_T52 x2 x8).f5) ((rd_T52 x2 x8).f6)) else (steelyardref14_Join.j2 k x0 x1 x2 x7 x8 (((rd_T52 x2 x8).f0) == 8) ((rd_T52 x2 x8).f0) ((rd_T52 x2 x8).f1) ((rd_T52 x2 x8).f2) ((rd_T52 x2 x8).f3) ((rd_T52 x2 x8).f4) ((rd_T52 x2 x8).f5) ((rd_T52 x2 x8).f6))))) else (none)) else (if x7.length < 1954687338268 then ((steelyardref14_whole.f (x7 ++ [(⟨x0,wrap64 ((x1.length : Int) - 1),wrap64 ((wrap64 ((x1.length : Int) + (x2.length : Int))) - 1),0,(⟨#[]⟩ : ByteArray),(⟨#[]⟩ : ByteArray),0⟩ : S52)])).bind fun t206 => (some t206)) else (none))
def steelyardref14_Join.j2 : Nat → Int → List (S52) → List (S52) → List (S52) → Int → Bool → Int → Int → Int → Int → ByteArray → ByteArray → Int → Option ((List (S52)))
 | 0,_,_,_,_,_,_,_,_,_,_,_,_,_ => none
 | k + 1,x0,x1,x2,x7,x8,x48,x211000,x211001,x211002,x211003,x211004,x211005,x211006 => if x48 = true then ((steelyardref14_Two.f x211000).bind fun t212 => (if t212 = true then (if x7.length < 1954687338268 then (steelyardref14_Join.l0 k x0 x1 x2 (x7 ++ [(⟨x211000,wrap64 (x211001 + (x1.length : Int)),wrap64 (x211002 + (x1.length : Int)),x211003,x211004,x211005,x211006⟩ : S52)]) (wrap64 (x8 + 1))) else (none)) else (if x7.length < 1954687338268 then (steelyardref14_Join.l0 k x0 x1 x2 (x7 ++ [(⟨x211000,wrap64 (x211001 + (x1.length : Int)),x211002,x211003,x211004,x211005,x211006⟩ : S52)]) (wrap64 (x8 + 1))) else (none)))) else ((steelyardref14_Two.f x211000).bind fun t219 => (if t219 = true then (if x7.length < 1954687338268 then (steelyardref14_Join.l0 k x0 x1 x2 (x7 ++ [(⟨x211000,x211001,wrap64 (x211002 + (x1.length : Int)),x211003,x211004,x211005,x211006⟩ : S52)]) (wrap64 (x8 + 1))) else (none)) else (if x7.length < 1954687338268 then (steelyardref14_Join.l0 k x0 x1 x2 (x7 ++ [(⟨x211000,x211001,x211002,x211003,x211004,x211005,x211006⟩ : S52)]) (wrap64 (x8 + 1))) else (none))))
end
def steelyardref14_Join.f (k : Nat) (a0 : Int) (l1 : List (S52)) (l2 : List (S52)) : Option ((List (S52))) := (steelyardref14_Good.f l1).bind fun t194 => (if t194 = true then ((steelyardref14_Good.f l2).bind fun t195 => (if t195 = true then ((steelyardref14_Two.f a0).bind fun t196 => (steelyardref14_Join.j0 k a0 l1 l2 (!t196))) else (steelyardref14_Join.j0 k a0 l1 l2 true))) else (steelyardref14_Join.j0 k a0 l1 l2 true))
theorem steelyardref14_Join.mono_l : ∀ k,(∀ y0 y1 y2 y3,LeO (steelyardref14_Join.j0 k y0 y1 y2 y3) (steelyardref14_Join.j0 (k + 1) y0 y1 y2 y3)) ∧ (∀ y0 y1 y2 y3 y4,LeO (steelyardref14_Join.l0 k y0 y1 y2 y3 y4) (steelyardref14_Join.l0 (k + 1) y0 y1 y2 y3 y4)) ∧ (∀ y0 y1 y2 y3 y4 y5 y6 y7 y8 y9 y10 y11 y12,LeO (steelyardref14_Join.j2 k y0 y1 y2 y3 y4 y5 y6 y7 y8 y9 y10 y11 y12) (steelyardref14_Join.j2 (k + 1) y0 y1 y2 y3 y4 y5 y6 y7 y8 y9 y10 y11 y12))
 | 0 => ⟨fun _ _ _ _ r h => by simp [steelyardref14_Join.j0] at h,fun _ _ _ _ _ r h => by simp [steelyardref14_Join.l0] at h,fun _ _ _ _ _ _ _ _ _ _ _ _ _ r h => by simp [steelyardref14_Join.j2] at h⟩
 | k + 1 => by
  obtain ⟨ih0,ih1,ih2⟩ := steelyardref14_Join.mono_l k
  refine ⟨?_,?_,?_⟩
  ·intro y0 y1 y2 y3
   unfold steelyardref14_Join.j0
   repeat' first
   |(with_reducible exact ih0 _ _ _ _)
   |(with_reducible exact ih1 _ _ _ _ _)
   |(with_reducible exact ih2 _ _ _ _ _ _ _ _ _ _ _ _ _)
   |(with_reducible exact LeO.refl _)
   |(with_reducible exact LeO.none _)
   |(with_reducible refine LeO.ite ?_ ?_)
   |(with_reducible refine LeO.bind ?_ (fun _ => ?_))
   | exact ih0 _ _ _ _
   | exact ih1 _ _ _ _ _
   | exact ih2 _ _ _ _ _ _ _ _ _ _ _ _ _
   | exact LeO.none _
   | refine LeO.ite ?_ ?_
   | refine LeO.bind ?_ (fun _ => ?_)
  ·intro y0 y1 y2 y3 y4
   unfold steelyardref14_Join.l0
   repeat' first
   |(with_reducible exact ih0 _ _ _ _)
   |(with_reducible exact ih1 _ _ _ _ _)
   |(with_reducible exact ih2 _ _ _ _ _ _ _ _ _ _ _ _ _)
   |(with_reducible exact LeO.refl _)
   |(with_reducible exact LeO.none _)
   |(with_reducible refine LeO.ite ?_ ?_)
   |(with_reducible refine LeO.bind ?_ (fun _ => ?_))
   | exact ih0 _ _ _ _
   | exact ih1 _ _ _ _ _
   | exact ih2 _ _ _ _ _ _ _ _ _ _ _ _ _
   | exact LeO.none _
   | refine LeO.ite ?_ ?_
   | refine LeO.bind ?_ (fun _ => ?_)
  ·intro y0 y1 y2 y3 y4 y5 y6 y7 y8 y9 y10 y11 y12
   unfold steelyardref14_Join.j2
   repeat' first
   |(with_reducible exact ih0 _ _ _ _)
   |(with_reducible exact ih1 _ _ _ _ _)
   |(with_reducible exact ih2 _ _ _ _ _ _ _ _ _ _ _ _ _)
   |(with_reducible exact LeO.refl _)
   |(with_reducible exact LeO.none _)
   |(with_reducible refine LeO.ite ?_ ?_)
   |(with_reducible refine LeO.bind ?_ (fun _ => ?_))
   | exact ih0 _ _ _ _
   | exact ih1 _ _ _ _ _
   | exact ih2 _ _ _ _ _ _ _ _ _ _ _ _ _
   | exact LeO.none _
   | refine LeO.ite ?_ ?_
   | refine LeO.bind ?_ (fun _ => ?_)
theorem steelyardref14_Join.mono : ∀ a0 a1 a2 k,LeO (steelyardref14_Join.f k a0 a1 a2) (steelyardref14_Join.f (k + 1) a0 a1 a2) := by
 intro a0 a1 a2 k
 obtain ⟨ih0,ih1,ih2⟩ := steelyardref14_Join.mono_l k
 unfold steelyardref14_Join.f
 repeat' first
  |(with_reducible exact ih0 _ _ _ _)
  |(with_reducible exact ih1 _ _ _ _ _)
  |(with_reducible exact ih2 _ _ _ _ _ _ _ _ _ _ _ _ _)
  |(with_reducible exact LeO.refl _)
  |(with_reducible exact LeO.none _)
  |(with_reducible refine LeO.ite ?_ ?_)
  |(with_reducible refine LeO.bind ?_ (fun _ => ?_))
  | exact ih0 _ _ _ _
  | exact ih1 _ _ _ _ _
  | exact ih2 _ _ _ _ _ _ _ _ _ _ _ _ _
  | exact LeO.none _
  | refine LeO.ite ?_ ?_
  | refine LeO.bind ?_ (fun _ => ?_)
set_option maxHeartbeats 8000000 in
set_option maxRecDepth 100000 in
theorem steelyardref14_Join.calls (k : Nat) (a0 : Int) (A1 : Option Addr) (c1 : Nat) (l1 : List (S52)) (A2 : Option Addr) (c2 : Nat) (l2 : List (S52)) (r : List (S52)) (w : World) (hr1 : Kd.C k52 w A1 l1.length l1) (hc1 : l1.length ≤ c1) (hr2 : Kd.C k52 w A2 l2.length l2) (hc2 : l2.length ≤ c2) (h : steelyardref14_Join.f k a0 l1 l2 = some r) :
 Calls Tryd.prog 31 #[.int .i64 a0,.slice A1 l1.length c1,.slice A2 l2.length c2] w fun e w' => ∃ v0_ : Value,e = .returned (v0_) ∧ Kd.R k52 52 w' w.heap.size (fun _ => True) v0_ r ∧ Below w.heap.size w w' := by
 have hu52 := Tryd.underlying52
 have HR1 := Aside0.mk hr1
 have HC1 := Aside0.mk hc1
 clear hr1 hc1
 have HR2 := Aside0.mk hr2
 have HC2 := Aside0.mk hc2
 clear hr2 hc2
 have HB := Aside0.mk (Below.refl w.heap.size w)
 have H : ((steelyardref14_Good.f l1).bind fun t194 => (if t194 = true then ((steelyardref14_Good.f l2).bind fun t195 => (if t195 = true then ((steelyardref14_Two.f a0).bind fun t196 => (steelyardref14_Join.j0 k a0 l1 l2 (!t196))) else (steelyardref14_Join.j0 k a0 l1 l2 true))) else (steelyardref14_Join.j0 k a0 l1 l2 true))) = some r := h
 clear h
 have HC4 := Aside0.mk H
 clear H
 go_enter Tryd.func31,Tryd.ntmps31
 go_upto_region 1 with (fail)
 go_cut [22] (fun v22 wc => ∃ (kq : Nat) (x22_3 : Bool),v22 = .bool x22_3 ∧ Aside0 (steelyardref14_Join.j0 kq a0 l1 l2 x22_3 = some r) ∧ Aside0 (kq ≤ k) ∧ Aside0 (Below w.heap.size w wc))
 case first =>
  have H := HC4.out
  clear HC4
  replace H := Option.bind_eq_some_iff.mp H
  obtain ⟨t194,A50,H⟩ := H
  replace H : (if t194 = true then ((steelyardref14_Good.f l2).bind fun t195 => (if t195 = true then ((steelyardref14_Two.f a0).bind fun t196 => (steelyardref14_Join.j0 k a0 l1 l2 (!t196))) else (steelyardref14_Join.j0 k a0 l1 l2 true))) else (steelyardref14_Join.j0 k a0 l1 l2 true)) = some r := H
  have A5 := Aside0.mk A50
  clear A50
  by_cases c6 : t194 = true
  ·subst c6
   have H1 : ((steelyardref14_Good.f l2).bind fun t195 => (if t195 = true then ((steelyardref14_Two.f a0).bind fun t196 => (steelyardref14_Join.j0 k a0 l1 l2 (!t196))) else (steelyardref14_Join.j0 k a0 l1 l2 true))) = some r := by rw [if_pos rfl] at H;exact H
   clear H
   have H := H1
   clear H1
   replace H := Option.bind_eq_some_iff.mp H
   obtain ⟨t195,A70,H⟩ := H
   replace H : (if t195 = true then ((steelyardref14_Two.f a0).bind fun t196 => (steelyardref14_Join.j0 k a0 l1 l2 (!t196))) else (steelyardref14_Join.j0 k a0 l1 l2 true)) = some r := H
   have A7 := Aside0.mk A70
   clear A70
   by_cases c8 : t195 = true
   ·subst c8
    have H1 : ((steelyardref14_Two.f a0).bind fun t196 => (steelyardref14_Join.j0 k a0 l1 l2 (!t196))) = some r := by rw [if_pos rfl] at H;exact H
    clear H
    have H := H1
    clear H1
    replace H := Option.bind_eq_some_iff.mp H
    obtain ⟨t196,A90,H⟩ := H
    replace H : (steelyardref14_Join.j0 k a0 l1 l2 (!t196)) = some r := H
    have A9 := Aside0.mk A90
    clear A90
    have H' := Aside0.mk H
    clear H
    go_wp2_with (first | ((with_reducible refine gate_callee (f := 34) rfl ?_);refine goesL_ (some 11) rfl rfl Tryd.func34 (by kernel_rfl) rfl #[.slice A1 l1.length c1] rfl (by (try simp only [List.map_toArray,List.map_cons,List.map_nil]);first | done | rfl | (simp only [List.length_drop,List.length_take];rfl)) ?_;(with_reducible refine (steelyardref14_Good.calls _ _ l1 true _ ?side1 ?side2 A5.out).mono ?_);(case side1 => repeat (first | exact (Kd.C_below HR1.out HB.out) | (with_reducible refine Kd.C_alloc ?_ _) | (with_reducible refine Kd.C_drewN ?_ _) | (with_reducible refine Kd.C_drew ?_)));(case side2 => exact HC1.out);rintro e w10 ⟨rfl,hb⟩;refine ⟨_,rfl,?_⟩;have n0_ := Aside0.mk (below_step (by repeat (first | (with_reducible first | exact HB.out | apply below_alloc | apply pw_below_drewN | apply below_drew1) | exact HB.out)) hb);clear HB;have HB := n0_;clear n0_;(try clear hb);(try clear hb2);(try clear hk);(try clear hi)) | (go_at_call 34;(with_reducible refine (steelyardref14_Good.calls _ _ l2 true _ ?side1 ?side2 A7.out).mono ?_);(case side1 => repeat (first | exact (Kd.C_below HR2.out HB.out) | (with_reducible refine Kd.C_alloc ?_ _) | (with_reducible refine Kd.C_drewN ?_ _) | (with_reducible refine Kd.C_drew ?_)));(case side2 => exact HC2.out);rintro e w11 ⟨rfl,hb⟩;have n0_ := Aside0.mk (below_step (by repeat (first | (with_reducible first | exact HB.out | apply below_alloc | apply pw_below_drewN | apply below_drew1) | exact HB.out)) hb);clear HB;have HB := n0_;clear n0_;(try clear hb);(try clear hb2);(try clear hk);(try clear hi)) | (go_at_call 40;(with_reducible refine (steelyardref14_Two.calls a0 t196 _ A9.out).mono ?_);rintro e w12 ⟨rfl,hb⟩;have n0_ := Aside0.mk (below_step (by repeat (first | (with_reducible first | exact HB.out | apply below_alloc | apply pw_below_drewN | apply below_drew1) | exact HB.out)) hb);clear HB;have HB := n0_;clear n0_;(try clear hb);(try clear hb2);(try clear hk);(try clear hi)))
    go_meet
    case rel => exact ⟨_,(!t196),(by first | rfl | (simp;done) | (simp [*];done)),H',⟨by first | omega | exact Nat.le_refl _⟩,⟨by repeat (first | (with_reducible first | exact HB.out | apply below_alloc | apply pw_below_drewN | apply below_drew1) | exact HB.out)⟩⟩
   ·replace c8 := Bool.eq_false_iff.mpr c8
    subst c8
    have H1 : (steelyardref14_Join.j0 k a0 l1 l2 true) = some r := by rw [if_neg (show ¬ (false = true) by decide)] at H;exact H
    clear H
    have H := H1
    clear H1
    have H' := Aside0.mk H
    clear H
    go_wp2_with (first | ((with_reducible refine gate_callee (f := 34) rfl ?_);refine goesL_ (some 11) rfl rfl Tryd.func34 (by kernel_rfl) rfl #[.slice A1 l1.length c1] rfl (by (try simp only [List.map_toArray,List.map_cons,List.map_nil]);first | done | rfl | (simp only [List.length_drop,List.length_take];rfl)) ?_;(with_reducible refine (steelyardref14_Good.calls _ _ l1 true _ ?side1 ?side2 A5.out).mono ?_);(case side1 => repeat (first | exact (Kd.C_below HR1.out HB.out) | (with_reducible refine Kd.C_alloc ?_ _) | (with_reducible refine Kd.C_drewN ?_ _) | (with_reducible refine Kd.C_drew ?_)));(case side2 => exact HC1.out);rintro e w13 ⟨rfl,hb⟩;refine ⟨_,rfl,?_⟩;have n0_ := Aside0.mk (below_step (by repeat (first | (with_reducible first | exact HB.out | apply below_alloc | apply pw_below_drewN | apply below_drew1) | exact HB.out)) hb);clear HB;have HB := n0_;clear n0_;(try clear hb);(try clear hb2);(try clear hk);(try clear hi)) | (go_at_call 34;(with_reducible refine (steelyardref14_Good.calls _ _ l2 false _ ?side1 ?side2 A7.out).mono ?_);(case side1 => repeat (first | exact (Kd.C_below HR2.out HB.out) | (with_reducible refine Kd.C_alloc ?_ _) | (with_reducible refine Kd.C_drewN ?_ _) | (with_reducible refine Kd.C_drew ?_)));(case side2 => exact HC2.out);rintro e w14 ⟨rfl,hb⟩;have n0_ := Aside0.mk (below_step (by repeat (first | (with_reducible first | exact HB.out | apply below_alloc | apply pw_below_drewN | apply below_drew1) | exact HB.out)) hb);clear HB;have HB := n0_;clear n0_;(try clear hb);(try clear hb2);(try clear hk);(try clear hi)))
    go_meet
    case rel => exact ⟨_,(true),(by first | rfl | (simp;done) | (simp [*];done)),H',⟨by first | omega | exact Nat.le_refl _⟩,⟨by repeat (first | (with_reducible first | exact HB.out | apply below_alloc | apply pw_below_drewN | apply below_drew1) | exact HB.out)⟩⟩
  ·replace c6 := Bool.eq_false_iff.mpr c6
   subst c6
   have H1 : (steelyardref14_Join.j0 k a0 l1 l2 true) = some r := by rw [if_neg (show ¬ (false = true) by decide)] at H;exact H
   clear H
   have H := H1
   clear H1
   have H' := Aside0.mk H
   clear H
   go_wp2_with (first | ((with_reducible refine gate_callee (f := 34) rfl ?_);refine goesL_ (some 11) rfl rfl Tryd.func34 (by kernel_rfl) rfl #[.slice A1 l1.length c1] rfl (by (try simp only [List.map_toArray,List.map_cons,List.map_nil]);first | done | rfl | (simp only [List.length_drop,List.length_take];rfl)) ?_;(with_reducible refine (steelyardref14_Good.calls _ _ l1 false _ ?side1 ?side2 A5.out).mono ?_);(case side1 => repeat (first | exact (Kd.C_below HR1.out HB.out) | (with_reducible refine Kd.C_alloc ?_ _) | (with_reducible refine Kd.C_drewN ?_ _) | (with_reducible refine Kd.C_drew ?_)));(case side2 => exact HC1.out);rintro e w15 ⟨rfl,hb⟩;refine ⟨_,rfl,?_⟩;have n0_ := Aside0.mk (below_step (by repeat (first | (with_reducible first | exact HB.out | apply below_alloc | apply pw_below_drewN | apply below_drew1) | exact HB.out)) hb);clear HB;have HB := n0_;clear n0_;(try clear hb);(try clear hb2);(try clear hk);(try clear hi)))
   go_meet
   case rel => exact ⟨_,(true),(by first | rfl | (simp;done) | (simp [*];done)),H',⟨by first | omega | exact Nat.le_refl _⟩,⟨by repeat (first | (with_reducible first | exact HB.out | apply below_alloc | apply pw_below_drewN | apply below_drew1) | exact HB.out)⟩⟩
 case rest =>
  clear HC4
  try clear c1
  try clear c2
  try clear p2
  try clear c3
  try clear c6
  try clear c8
  obtain ⟨kq,x22_3,rfl,HA,HJ3,HB⟩ := hcut
  cases kq with
  | zero => exact absurd HA.out (by simp [steelyardref14_Join.j0])
  | succ kj3 =>
   have H := HA.out
   clear HA
   simp only [steelyardref14_Join.j0] at H
   by_cases c16 : x22_3 = true
   ·subst c16
    have H1 : (some ([] : List (S52))) = some r := by rw [if_pos rfl] at H;exact H
    clear H
    have H := H1
    clear H1
    obtain rfl := Option.some.inj H
    go_wp2
    go_ret
    exact ⟨_,by first | rfl | (simp [errW_none,errW_some] <;> rfl) | (simp [*,errW_none,errW_some] <;> rfl),by first | exact Kd.R_nil _ _ _ _ _ | exact Kd.N_nil _ _ _ _ _ | exact Kd.V_nil _ _ _ _ _ | exact Kd.Q_nil _ _ _ _ _ | exact Kd.S_nil _ _ _ _ _,by repeat (first | (with_reducible first | exact HB.out | apply below_alloc | apply pw_below_drewN | apply below_drew1) | exact HB.out)⟩
   ·replace c16 := Bool.eq_false_iff.mpr c16
    subst c16
    have H1 : ((some (([] : List (S52)) : List (S52))).bind fun y197 => (if y197.length + l1.length < 1954687338268 then (steelyardref14_Join.l0 kj3 a0 l1 l2 (y197 ++ l1) 0) else (none))) = some r := by rw [if_neg (show ¬ (false = true) by decide)] at H;exact H
    clear H
    have H := H1
    clear H1
    obtain ⟨y197,hy197⟩ : ∃ y_ : List (S52),y_ = (([] : List (S52))) := ⟨_,rfl⟩
    replace H : (if y197.length + l1.length < 1954687338268 then (steelyardref14_Join.l0 kj3 a0 l1 l2 (y197 ++ l1) 0) else (none)) = some r := by first | (rw [hy197];with_reducible exact H) | (have H2_ := (Option.bind_some _ _).symm.trans H;rw [hy197];with_reducible exact H2_) | (have H2_ := (Option.bind_some _ _).symm.trans H;with_reducible exact H2_) | with_reducible exact H | (rw [hy197];exact H) | exact H
    have Ny197 := Aside0.mk hy197
    clear hy197
    by_cases c17 : y197.length + l1.length < 1954687338268
    ·rw [if_pos c17] at H
     have LMc17 := Aside0.mk c17
     clear c17
     obtain ⟨y200,hy200⟩ : ∃ y_ : List (S52),y_ = (y197 ++ l1) := ⟨_,rfl⟩
     replace H : (steelyardref14_Join.l0 kj3 a0 l1 l2 y200 0) = some r := by first | (rw [hy200];with_reducible exact H) | (have H2_ := (Option.bind_some _ _).symm.trans H;rw [hy200];with_reducible exact H2_) | (have H2_ := (Option.bind_some _ _).symm.trans H;with_reducible exact H2_) | with_reducible exact H | (rw [hy200];exact H) | exact H
     have Ny200 := Aside0.mk hy200
     clear hy200
     have H' := Aside0.mk H
     clear H
     go_wp2_with (first | ((with_reducible refine gate_dst (N := 23) rfl ?_);refine Kd.R_lit k52 _ 52 ?hg (N := 23) ?hd (xs := ([] : List (S52))) (inner := []) (ok := fun _ => True) (okp := fun _ => True) ?hr ?hp (fun _ hk => hk) trivial (Below.refl _ _) (Nat.le_refl _) (by simp) ?_;(case hd => rfl);(case hg => rfl);(case hr => first | (go_simp;done) | (go_simp;rfl));(case hp => exact (Reps.none _ _));intro v198 w18 ho19 hb hg_ hnew_;clear hg_ hnew_;(first | rw [← Ny197.out] at ho19 | (simp only [Int.reduceToNat] at ho19;rw [← Ny197.out] at ho19));have n0_ := Aside0.mk (Kd.R_lower ho19 (below_size (by repeat (first | (with_reducible first | exact HB.out | apply below_alloc | apply pw_below_drewN | apply below_drew1) | exact HB.out))));have n1_ := Aside0.mk (below_step (by repeat (first | (with_reducible first | exact HB.out | apply below_alloc | apply pw_below_drewN | apply below_drew1) | exact HB.out)) hb);clear HB;have HO199 := n0_;have HB := n1_;clear n0_ n1_;clear hb ho19) | ((with_reducible refine gate_builtin (b := .append) (xs := #[.tmp 23,.tmp 24]) rfl ?_);at_builtin;refine Kd.R_append_rows k52 (w0 := w) w.heap.size rfl (.tmp 23) (.tmp 24) 39 52 (.agg #[(.int .i64 0),(.int .i64 0),(.int .i64 0),(.int .i64 0),(.string ⟨#[]⟩),(.string ⟨#[]⟩),(.int .i64 0)]) 72 rfl Tryd.underlying39 info52 rfl (by decide) (by omega) v198 y197 l1 _ _ _ (fun _ => True) (fun _ => False) rfl rfl ?aO ?aR (fun _ _ h => h) (fun _ h => h.elim) ?aF ?aB ?aS ?aL ?_;(case aR => repeat (first | exact (Kd.C_below HR1.out HB.out) | (with_reducible refine Kd.C_alloc ?_ _) | (with_reducible refine Kd.C_drewN ?_ _) | (with_reducible refine Kd.C_drew ?_)));(case aB => exact (by repeat (first | (with_reducible first | exact HB.out | apply below_alloc | apply pw_below_drewN | apply below_drew1) | exact HB.out)));(case aF => exact (fun _ _ => trivial));(case aO => exact (by (with_reducible repeat (first | apply Kd.R_alloc | apply Kd.R_drewN | apply Kd.R_drew));exact HO199.out));(case aS => exact (below_size (by repeat (first | (with_reducible first | exact HB.out | apply below_alloc | apply pw_below_drewN | apply below_drew1) | exact HB.out))));(case aL => have := LMc17.out;omega);intro v201 w20 ho hb hg hat;rw [← Ny200.out] at ho;have n0_ := Aside0.mk (hb);have n1_ := Aside0.mk (ho);clear HB;clear HO199;have HB := n0_;have HO202 := n1_;clear n0_ n1_;clear ho hb hg hat))
     go_loopg [7,8] kj3 (fun kq v7 v8 w' => ∃ (x7_2 : List (S52)) (x8_2 : Int),v8 = .int .i64 x8_2 ∧ Aside0 (steelyardref14_Join.l0 kq a0 l1 l2 x7_2 x8_2 = some r) ∧ Aside0 (kq ≤ kj3) ∧ Aside0 (Kd.R k52 52 w' w.heap.size (fun _ => True) v7 x7_2) ∧ Aside0 (Below w.heap.size w w'))
     case atStart => exact ⟨(y200),(0),(by first | rfl | (simp;done) | (simp [*];done)),H',⟨Nat.le_refl _⟩,⟨by (with_reducible repeat (first | apply Kd.R_alloc | apply Kd.R_drewN | apply Kd.R_drew));exact HO202.out⟩,⟨by repeat (first | (with_reducible first | exact HB.out | apply below_alloc | apply pw_below_drewN | apply below_drew1) | exact HB.out)⟩⟩
     case round =>
      clear H'
      try clear c1
      try clear c2
      try clear p2
      try clear c3
      try clear c6
      try clear c8
      try clear c16
      try clear c17
      try clear p2
      obtain ⟨x7_2,x8_2,rfl,HA,HK2,HO_7,HB⟩ := hrel
      cases gk with
      | zero => exact absurd HA.out (by simp [steelyardref14_Join.l0])
      | succ k2 =>
       have H := HA.out
       clear HA
       simp only [steelyardref14_Join.l0] at H
       by_cases c21 : x8_2 < (l2.length : Int)
       ·rw [if_pos c21] at H
        have c21b0 : decide (x8_2 < (l2.length : Int)) = true := decide_eq_true c21
        clear c21
        by_cases c22 : 0 ≤ x8_2
        ·rw [if_pos c22] at H
         have c22b0 : decide (0 ≤ x8_2) = true := decide_eq_true c22
         clear c22
         have HC23 := Aside0.mk H
         clear H
         have p209 : 0 ≤ (x8_2 : Int) := of_decide_eq_true (by first | (with_reducible assumption) | assumption)
         have q209 : x8_2 < (l2.length : Int) := of_decide_eq_true (by first | (with_reducible assumption) | assumption)
         obtain ⟨ad209,e209,hx209_0,hx209_1,hx209_2,hx209_3,hx209_4,hx209_5,hx209_6⟩ := at_T52 HR2.out x8_2 p209 q209
         cases e209
         replace hx209_0 := (HB.out.cell (World.block_lt_of_cell? w _ hx209_0)).trans hx209_0
         replace hx209_1 := (HB.out.cell (World.block_lt_of_cell? w _ hx209_1)).trans hx209_1
         replace hx209_2 := (HB.out.cell (World.block_lt_of_cell? w _ hx209_2)).trans hx209_2
         replace hx209_3 := (HB.out.cell (World.block_lt_of_cell? w _ hx209_3)).trans hx209_3
         replace hx209_4 := (HB.out.cell (World.block_lt_of_cell? w _ hx209_4)).trans hx209_4
         replace hx209_5 := (HB.out.cell (World.block_lt_of_cell? w _ hx209_5)).trans hx209_5
         replace hx209_6 := (HB.out.cell (World.block_lt_of_cell? w _ hx209_6)).trans hx209_6
         replace p209 := eq_true p209
         replace q209 := eq_true q209
         go_upto_region 8 with (first | ((with_reducible refine gate_dst (N := 9) rfl ?_);refine box_event ?hg (N := 9) ?hd (cs := #[.int .i64 0,.int .i64 0,.int .i64 0,.int .i64 0,.string (⟨#[]⟩ : ByteArray),.string (⟨#[]⟩ : ByteArray),.int .i64 0]) (t := 52) ?hr ?_;(case hd => rfl);(case hg => rfl);(case hr => first | (go_simp;done) | (go_simp;rfl));intro gb210 hg w24 hbox hb;have n0_ := Aside0.mk (Kd.R_below (Kd.R_elderB (by (with_reducible repeat (first | apply Kd.R_alloc | apply Kd.R_drewN | apply Kd.R_drew));exact HO_7.out) gb210 (Nat.le_of_eq hg.symm)) hb);have n1_ := Aside0.mk (below_step (by repeat (first | (with_reducible first | exact HB.out | apply below_alloc | apply pw_below_drewN | apply below_drew1) | exact HB.out)) hb);have n2_ := Aside0.mk (hbox);have n3_ := Aside0.mk ((by rw [hg];exact (below_size (by repeat (first | (with_reducible first | exact HB.out | apply below_alloc | apply pw_below_drewN | apply below_drew1) | exact HB.out))) : w.heap.size ≤ gb210));have n4_ := Aside0.mk ((by rw [hg];exact (below_size (by repeat (first | (with_reducible first | exact HB.out | apply below_alloc | apply pw_below_drewN | apply below_drew1) | exact HB.out))) : w.heap.size ≤ gb210));clear HO_7;clear HB;have HO_7 := n0_;have HB := n1_;have BK210 := n2_;have GW210 := n3_;have GE210 := n4_;clear n0_ n1_ n2_ n3_ n4_;clear hb hbox hg;have hcz25_0 : w24.cell? ⟨gb210,0,none⟩ = some (.int .i64 0) := (blk_cell BK210.out 0).trans rfl;have hcz25_1 : w24.cell? ⟨gb210,1,none⟩ = some (.int .i64 0) := (blk_cell BK210.out 1).trans rfl;have hcz25_2 : w24.cell? ⟨gb210,2,none⟩ = some (.int .i64 0) := (blk_cell BK210.out 2).trans rfl;have hcz25_3 : w24.cell? ⟨gb210,3,none⟩ = some (.int .i64 0) := (blk_cell BK210.out 3).trans rfl;have hcz25_4 : w24.cell? ⟨gb210,4,none⟩ = some (.string (⟨#[]⟩ : ByteArray)) := (blk_cell BK210.out 4).trans rfl;have hcz25_5 : w24.cell? ⟨gb210,5,none⟩ = some (.string (⟨#[]⟩ : ByteArray)) := (blk_cell BK210.out 5).trans rfl;have hcz25_6 : w24.cell? ⟨gb210,6,none⟩ = some (.int .i64 0) := (blk_cell BK210.out 6).trans rfl;have hfz25_0 := blk_frozen BK210.out 0;have hfz25_1 := blk_frozen BK210.out 1;have hfz25_2 := blk_frozen BK210.out 2;have hfz25_3 := blk_frozen BK210.out 3;have hfz25_4 := blk_frozen BK210.out 4;have hfz25_5 := blk_frozen BK210.out 5;have hfz25_6 := blk_frozen BK210.out 6))
         (try simp only [Act.put,List.setIfInBounds_toArray,List.set_cons_zero,List.set_cons_succ])
         go_cut [48] (fun v48 wc => ∃ (kq : Nat) (x48_22 : Bool),v48 = .bool x48_22 ∧ Aside0 (steelyardref14_Join.j2 kq a0 l1 l2 x7_2 x8_2 x48_22 ((rd_T52 l2 x8_2).f0) ((rd_T52 l2 x8_2).f1) ((rd_T52 l2 x8_2).f2) ((rd_T52 l2 x8_2).f3) ((rd_T52 l2 x8_2).f4) ((rd_T52 l2 x8_2).f5) ((rd_T52 l2 x8_2).f6) = some r) ∧ Aside0 (kq ≤ k2) ∧ Aside0 (Kd.R k52 52 wc w.heap.size (fun k_ => k_ ≠ gb210) u7 x7_2) ∧ Aside0 (wc.heap[gb210]? = some (.cells #[.int .i64 ((rd_T52 l2 x8_2).f0),.int .i64 ((rd_T52 l2 x8_2).f1),.int .i64 ((rd_T52 l2 x8_2).f2),.int .i64 ((rd_T52 l2 x8_2).f3),.string ((rd_T52 l2 x8_2).f4),.string ((rd_T52 l2 x8_2).f5),.int .i64 ((rd_T52 l2 x8_2).f6)] 52 (0,0))) ∧ Aside0 (Below w.heap.size w wc))
         case first =>
          have H := HC23.out
          clear HC23
          replace H := Option.bind_eq_some_iff.mp H
          obtain ⟨t211,A260,H⟩ := H
          replace H : (if t211 = true then (steelyardref14_Join.j2 k2 a0 l1 l2 x7_2 x8_2 true ((rd_T52 l2 x8_2).f0) ((rd_T52 l2 x8_2).f1) ((rd_T52 l2 x8_2).f2) ((rd_T52 l2 x8_2).f3) ((rd_T52 l2 x8_2).f4) ((rd_T52 l2 x8_2).f5) ((rd_T52 l2 x8_2).f6)) else (if ((rd_T52 l2 x8_2).f0) = 7 then (steelyardref14_Join.j2 k2 a0 l1 l2 x7_2 x8_2 true ((rd_T52 l2 x8_2).f0) ((rd_T52 l2 x8_2).f1) ((rd_T52 l2 x8_2).f2) ((rd_T52 l2 x8_2).f3) ((rd_T52 l2 x8_2).f4) ((rd_T52 l2 x8_2).f5) ((rd_T52 l2 x8_2).f6)) else (steelyardref14_Join.j2 k2 a0 l1 l2 x7_2 x8_2 (((rd_T52 l2 x8_2).f0) == 8) ((rd_T52 l2 x8_2).f0) ((rd_T52 l2 x8_2).f1) ((rd_T52 l2 x8_2).f2) ((rd_T52 l2 x8_2).f3) ((rd_T52 l2 x8_2).f4) ((rd_T52 l2 x8_2).f5) ((rd_T52 l2 x8_2).f6)))) = some r := H
          have A26 := Aside0.mk A260
          clear A260
          by_cases c27 : t211 = true
          ·subst c27
           have H1 : (steelyardref14_Join.j2 k2 a0 l1 l2 x7_2 x8_2 true ((rd_T52 l2 x8_2).f0) ((rd_T52 l2 x8_2).f1) ((rd_T52 l2 x8_2).f2) ((rd_T52 l2 x8_2).f3) ((rd_T52 l2 x8_2).f4) ((rd_T52 l2 x8_2).f5) ((rd_T52 l2 x8_2).f6)) = some r := by rw [if_pos rfl] at H;exact H
           clear H
           have H := H1
           clear H1
           have H' := Aside0.mk H
           clear H
           have hcz28_0 : w24.cell? ⟨gb210,0,none⟩ = some (.int .i64 0) := (blk_cell BK210.out 0).trans rfl
           have hcz28_1 : w24.cell? ⟨gb210,1,none⟩ = some (.int .i64 0) := (blk_cell BK210.out 1).trans rfl
           have hcz28_2 : w24.cell? ⟨gb210,2,none⟩ = some (.int .i64 0) := (blk_cell BK210.out 2).trans rfl
           have hcz28_3 : w24.cell? ⟨gb210,3,none⟩ = some (.int .i64 0) := (blk_cell BK210.out 3).trans rfl
           have hcz28_4 : w24.cell? ⟨gb210,4,none⟩ = some (.string (⟨#[]⟩ : ByteArray)) := (blk_cell BK210.out 4).trans rfl
           have hcz28_5 : w24.cell? ⟨gb210,5,none⟩ = some (.string (⟨#[]⟩ : ByteArray)) := (blk_cell BK210.out 5).trans rfl
           have hcz28_6 : w24.cell? ⟨gb210,6,none⟩ = some (.int .i64 0) := (blk_cell BK210.out 6).trans rfl
           have hfz28_0 := blk_frozen BK210.out 0
           have hfz28_1 := blk_frozen BK210.out 1
           have hfz28_2 := blk_frozen BK210.out 2
           have hfz28_3 := blk_frozen BK210.out 3
           have hfz28_4 := blk_frozen BK210.out 4
           have hfz28_5 := blk_frozen BK210.out 5
           have hfz28_6 := blk_frozen BK210.out 6
           go_wp2_with (first | ((with_reducible refine gate_callee (f := 40) rfl ?_);refine goesL_ (some 38) rfl rfl Tryd.func40 (by kernel_rfl) rfl #[.int .i64 ((rd_T52 l2 x8_2).f0)] rfl (by (try simp only [List.map_toArray,List.map_cons,List.map_nil]);first | done | rfl | (simp only [List.length_drop,List.length_take];rfl)) ?_;(with_reducible refine (steelyardref14_Two.calls ((rd_T52 l2 x8_2).f0) true _ A26.out).mono ?_);rintro e w29 ⟨rfl,hb⟩;refine ⟨_,rfl,?_⟩;have n0_ := Aside0.mk (Kd.R_below (by (with_reducible repeat (first | apply Kd.R_alloc | apply Kd.R_drewN | apply Kd.R_drew));exact (Kd.R_mono (Kd.R_far (p := ⟨gb210,6,none⟩) (Kd.R_far (p := ⟨gb210,5,none⟩) (Kd.R_far (p := ⟨gb210,4,none⟩) (Kd.R_far (p := ⟨gb210,3,none⟩) (Kd.R_far (p := ⟨gb210,2,none⟩) (Kd.R_far (p := ⟨gb210,1,none⟩) (Kd.R_far (p := ⟨gb210,0,none⟩) (Kd.R_mono HO_7.out (fun k_ hk => (⟨hk,hk.2⟩ : _ ∧ k_ ≠ gb210))) (fun _ hk => hk.2) (.int .i64 ((rd_T52 l2 x8_2).f0))) (fun _ hk => hk.2) (.int .i64 ((rd_T52 l2 x8_2).f1))) (fun _ hk => hk.2) (.int .i64 ((rd_T52 l2 x8_2).f2))) (fun _ hk => hk.2) (.int .i64 ((rd_T52 l2 x8_2).f3))) (fun _ hk => hk.2) (.string ((rd_T52 l2 x8_2).f4))) (fun _ hk => hk.2) (.string ((rd_T52 l2 x8_2).f5))) (fun _ hk => hk.2) (.int .i64 ((rd_T52 l2 x8_2).f6))) (fun _ h_ => h_.1))) hb);have n1_ := Aside0.mk (blk_below (g := gb210) (o := .cells #[.int .i64 ((rd_T52 l2 x8_2).f0),.int .i64 ((rd_T52 l2 x8_2).f1),.int .i64 ((rd_T52 l2 x8_2).f2),.int .i64 ((rd_T52 l2 x8_2).f3),.string ((rd_T52 l2 x8_2).f4),.string ((rd_T52 l2 x8_2).f5),.int .i64 ((rd_T52 l2 x8_2).f6)] 52 (0,0)) (by (with_reducible repeat (first | refine blk_drewN ?_ _ | refine blk_drew ?_ | refine blk_alloc ?_ _));refine blk_put (cs := #[.int .i64 ((rd_T52 l2 x8_2).f0),.int .i64 ((rd_T52 l2 x8_2).f1),.int .i64 ((rd_T52 l2 x8_2).f2),.int .i64 ((rd_T52 l2 x8_2).f3),.string ((rd_T52 l2 x8_2).f4),.string ((rd_T52 l2 x8_2).f5),.int .i64 0]) ?_ 6 _ rfl;(with_reducible repeat (first | refine blk_drewN ?_ _ | refine blk_drew ?_ | refine blk_alloc ?_ _));refine blk_put (cs := #[.int .i64 ((rd_T52 l2 x8_2).f0),.int .i64 ((rd_T52 l2 x8_2).f1),.int .i64 ((rd_T52 l2 x8_2).f2),.int .i64 ((rd_T52 l2 x8_2).f3),.string ((rd_T52 l2 x8_2).f4),.string (⟨#[]⟩ : ByteArray),.int .i64 0]) ?_ 5 _ rfl;(with_reducible repeat (first | refine blk_drewN ?_ _ | refine blk_drew ?_ | refine blk_alloc ?_ _));refine blk_put (cs := #[.int .i64 ((rd_T52 l2 x8_2).f0),.int .i64 ((rd_T52 l2 x8_2).f1),.int .i64 ((rd_T52 l2 x8_2).f2),.int .i64 ((rd_T52 l2 x8_2).f3),.string (⟨#[]⟩ : ByteArray),.string (⟨#[]⟩ : ByteArray),.int .i64 0]) ?_ 4 _ rfl;(with_reducible repeat (first | refine blk_drewN ?_ _ | refine blk_drew ?_ | refine blk_alloc ?_ _));refine blk_put (cs := #[.int .i64 ((rd_T52 l2 x8_2).f0),.int .i64 ((rd_T52 l2 x8_2).f1),.int .i64 ((rd_T52 l2 x8_2).f2),.int .i64 0,.string (⟨#[]⟩ : ByteArray),.string (⟨#[]⟩ : ByteArray),.int .i64 0]) ?_ 3 _ rfl;(with_reducible repeat (first | refine blk_drewN ?_ _ | refine blk_drew ?_ | refine blk_alloc ?_ _));refine blk_put (cs := #[.int .i64 ((rd_T52 l2 x8_2).f0),.int .i64 ((rd_T52 l2 x8_2).f1),.int .i64 0,.int .i64 0,.string (⟨#[]⟩ : ByteArray),.string (⟨#[]⟩ : ByteArray),.int .i64 0]) ?_ 2 _ rfl;(with_reducible repeat (first | refine blk_drewN ?_ _ | refine blk_drew ?_ | refine blk_alloc ?_ _));refine blk_put (cs := #[.int .i64 ((rd_T52 l2 x8_2).f0),.int .i64 0,.int .i64 0,.int .i64 0,.string (⟨#[]⟩ : ByteArray),.string (⟨#[]⟩ : ByteArray),.int .i64 0]) ?_ 1 _ rfl;(with_reducible repeat (first | refine blk_drewN ?_ _ | refine blk_drew ?_ | refine blk_alloc ?_ _));refine blk_put (cs := #[.int .i64 0,.int .i64 0,.int .i64 0,.int .i64 0,.string (⟨#[]⟩ : ByteArray),.string (⟨#[]⟩ : ByteArray),.int .i64 0]) ?_ 0 _ rfl;(with_reducible repeat (first | refine blk_drewN ?_ _ | refine blk_drew ?_ | refine blk_alloc ?_ _));exact BK210.out) hb);have n2_ := Aside0.mk (below_step (by repeat (first | (with_reducible first | exact HB.out | apply below_alloc | apply pw_below_drewN | apply below_drew1 | refine below_set ?_ GE210.out) | exact HB.out)) hb);clear HO_7;clear BK210;clear HB;have HO_7 := n0_;have BK210 := n1_;have HB := n2_;clear n0_ n1_ n2_;(try clear hb);(try clear hb2);(try clear hk);(try clear hi)))
           go_meet
           case rel => exact ⟨_,(true),(by first | rfl | (simp;done) | (simp [*];done)),H',⟨by have := HJ3.out;have := HK2.out;first | omega | exact Nat.le_refl _⟩,⟨by (with_reducible repeat (first | apply Kd.R_alloc | apply Kd.R_drewN | apply Kd.R_drew));exact Kd.R_mono HO_7.out (fun _ hk => hk.2)⟩,⟨by (with_reducible repeat (first | refine blk_drewN ?_ _ | refine blk_drew ?_ | refine blk_alloc ?_ _));exact BK210.out⟩,⟨by repeat (first | (with_reducible first | exact HB.out | apply below_alloc | apply pw_below_drewN | apply below_drew1 | refine below_set ?_ GE210.out) | exact HB.out)⟩⟩
          ·replace c27 := Bool.eq_false_iff.mpr c27
           subst c27
           have H1 : (if ((rd_T52 l2 x8_2).f0) = 7 then (steelyardref14_Join.j2 k2 a0 l1 l2 x7_2 x8_2 true ((rd_T52 l2 x8_2).f0) ((rd_T52 l2 x8_2).f1) ((rd_T52 l2 x8_2).f2) ((rd_T52 l2 x8_2).f3) ((rd_T52 l2 x8_2).f4) ((rd_T52 l2 x8_2).f5) ((rd_T52 l2 x8_2).f6)) else (steelyardref14_Join.j2 k2 a0 l1 l2 x7_2 x8_2 (((rd_T52 l2 x8_2).f0) == 8) ((rd_T52 l2 x8_2).f0) ((rd_T52 l2 x8_2).f1) ((rd_T52 l2 x8_2).f2) ((rd_T52 l2 x8_2).f3) ((rd_T52 l2 x8_2).f4) ((rd_T52 l2 x8_2).f5) ((rd_T52 l2 x8_2).f6))) = some r := by rw [if_neg (show ¬ (false = true) by decide)] at H;exact H
           clear H
           have H := H1
           clear H1
           by_cases c30 : ((rd_T52 l2 x8_2).f0) = 7
           ·rw [if_pos c30] at H
            have c30b0 : (((rd_T52 l2 x8_2).f0) == 7) = true := beq_iff_eq.mpr c30
            have c30b1 : (((rd_T52 l2 x8_2).f0) != 7) = false := bne_eq_false_iff_eq.mpr c30
            clear c30
            (first | rw [c30b0] | (simp only [i64_w,i32_w];rw [c30b0]) | skip)
            have H' := Aside0.mk H
            clear H
            have hcz31_0 : w24.cell? ⟨gb210,0,none⟩ = some (.int .i64 0) := (blk_cell BK210.out 0).trans rfl
            have hcz31_1 : w24.cell? ⟨gb210,1,none⟩ = some (.int .i64 0) := (blk_cell BK210.out 1).trans rfl
            have hcz31_2 : w24.cell? ⟨gb210,2,none⟩ = some (.int .i64 0) := (blk_cell BK210.out 2).trans rfl
            have hcz31_3 : w24.cell? ⟨gb210,3,none⟩ = some (.int .i64 0) := (blk_cell BK210.out 3).trans rfl
            have hcz31_4 : w24.cell? ⟨gb210,4,none⟩ = some (.string (⟨#[]⟩ : ByteArray)) := (blk_cell BK210.out 4).trans rfl
            have hcz31_5 : w24.cell? ⟨gb210,5,none⟩ = some (.string (⟨#[]⟩ : ByteArray)) := (blk_cell BK210.out 5).trans rfl
            have hcz31_6 : w24.cell? ⟨gb210,6,none⟩ = some (.int .i64 0) := (blk_cell BK210.out 6).trans rfl
            have hfz31_0 := blk_frozen BK210.out 0
            have hfz31_1 := blk_frozen BK210.out 1
            have hfz31_2 := blk_frozen BK210.out 2
            have hfz31_3 := blk_frozen BK210.out 3
            have hfz31_4 := blk_frozen BK210.out 4
            have hfz31_5 := blk_frozen BK210.out 5
            have hfz31_6 := blk_frozen BK210.out 6
            go_wp2_with (first | ((with_reducible refine gate_callee (f := 40) rfl ?_);refine goesL_ (some 38) rfl rfl Tryd.func40 (by kernel_rfl) rfl #[.int .i64 ((rd_T52 l2 x8_2).f0)] rfl (by (try simp only [List.map_toArray,List.map_cons,List.map_nil]);first | done | rfl | (simp only [List.length_drop,List.length_take];rfl)) ?_;(with_reducible refine (steelyardref14_Two.calls ((rd_T52 l2 x8_2).f0) false _ A26.out).mono ?_);rintro e w32 ⟨rfl,hb⟩;refine ⟨_,rfl,?_⟩;have n0_ := Aside0.mk (Kd.R_below (by (with_reducible repeat (first | apply Kd.R_alloc | apply Kd.R_drewN | apply Kd.R_drew));exact (Kd.R_mono (Kd.R_far (p := ⟨gb210,6,none⟩) (Kd.R_far (p := ⟨gb210,5,none⟩) (Kd.R_far (p := ⟨gb210,4,none⟩) (Kd.R_far (p := ⟨gb210,3,none⟩) (Kd.R_far (p := ⟨gb210,2,none⟩) (Kd.R_far (p := ⟨gb210,1,none⟩) (Kd.R_far (p := ⟨gb210,0,none⟩) (Kd.R_mono HO_7.out (fun k_ hk => (⟨hk,hk.2⟩ : _ ∧ k_ ≠ gb210))) (fun _ hk => hk.2) (.int .i64 ((rd_T52 l2 x8_2).f0))) (fun _ hk => hk.2) (.int .i64 ((rd_T52 l2 x8_2).f1))) (fun _ hk => hk.2) (.int .i64 ((rd_T52 l2 x8_2).f2))) (fun _ hk => hk.2) (.int .i64 ((rd_T52 l2 x8_2).f3))) (fun _ hk => hk.2) (.string ((rd_T52 l2 x8_2).f4))) (fun _ hk => hk.2) (.string ((rd_T52 l2 x8_2).f5))) (fun _ hk => hk.2) (.int .i64 ((rd_T52 l2 x8_2).f6))) (fun _ h_ => h_.1))) hb);have n1_ := Aside0.mk (blk_below (g := gb210) (o := .cells #[.int .i64 ((rd_T52 l2 x8_2).f0),.int .i64 ((rd_T52 l2 x8_2).f1),.int .i64 ((rd_T52 l2 x8_2).f2),.int .i64 ((rd_T52 l2 x8_2).f3),.string ((rd_T52 l2 x8_2).f4),.string ((rd_T52 l2 x8_2).f5),.int .i64 ((rd_T52 l2 x8_2).f6)] 52 (0,0)) (by (with_reducible repeat (first | refine blk_drewN ?_ _ | refine blk_drew ?_ | refine blk_alloc ?_ _));refine blk_put (cs := #[.int .i64 ((rd_T52 l2 x8_2).f0),.int .i64 ((rd_T52 l2 x8_2).f1),.int .i64 ((rd_T52 l2 x8_2).f2),.int .i64 ((rd_T52 l2 x8_2).f3),.string ((rd_T52 l2 x8_2).f4),.string ((rd_T52 l2 x8_2).f5),.int .i64 0]) ?_ 6 _ rfl;(with_reducible repeat (first | refine blk_drewN ?_ _ | refine blk_drew ?_ | refine blk_alloc ?_ _));refine blk_put (cs := #[.int .i64 ((rd_T52 l2 x8_2).f0),.int .i64 ((rd_T52 l2 x8_2).f1),.int .i64 ((rd_T52 l2 x8_2).f2),.int .i64 ((rd_T52 l2 x8_2).f3),.string ((rd_T52 l2 x8_2).f4),.string (⟨#[]⟩ : ByteArray),.int .i64 0]) ?_ 5 _ rfl;(with_reducible repeat (first | refine blk_drewN ?_ _ | refine blk_drew ?_ | refine blk_alloc ?_ _));refine blk_put (cs := #[.int .i64 ((rd_T52 l2 x8_2).f0),.int .i64 ((rd_T52 l2 x8_2).f1),.int .i64 ((rd_T52 l2 x8_2).f2),.int .i64 ((rd_T52 l2 x8_2).f3),.string (⟨#[]⟩ : ByteArray),.string (⟨#[]⟩ : ByteArray),.int .i64 0]) ?_ 4 _ rfl;(with_reducible repeat (first | refine blk_drewN ?_ _ | refine blk_drew ?_ | refine blk_alloc ?_ _));refine blk_put (cs := #[.int .i64 ((rd_T52 l2 x8_2).f0),.int .i64 ((rd_T52 l2 x8_2).f1),.int .i64 ((rd_T52 l2 x8_2).f2),.int .i64 0,.string (⟨#[]⟩ : ByteArray),.string (⟨#[]⟩ : ByteArray),.int .i64 0]) ?_ 3 _ rfl;(with_reducible repeat (first | refine blk_drewN ?_ _ | refine blk_drew ?_ | refine blk_alloc ?_ _));refine blk_put (cs := #[.int .i64 ((rd_T52 l2 x8_2).f0),.int .i64 ((rd_T52 l2 x8_2).f1),.int .i64 0,.int .i64 0,.string (⟨#[]⟩ : ByteArray),.string (⟨#[]⟩ : ByteArray),.int .i64 0]) ?_ 2 _ rfl;(with_reducible repeat (first | refine blk_drewN ?_ _ | refine blk_drew ?_ | refine blk_alloc ?_ _));refine blk_put (cs := #[.int .i64 ((rd_T52 l2 x8_2).f0),.int .i64 0,.int .i64 0,.int .i64 0,.string (⟨#[]⟩ : ByteArray),.string (⟨#[]⟩ : ByteArray),.int .i64 0]) ?_ 1 _ rfl;(with_reducible repeat (first | refine blk_drewN ?_ _ | refine blk_drew ?_ | refine blk_alloc ?_ _));refine blk_put (cs := #[.int .i64 0,.int .i64 0,.int .i64 0,.int .i64 0,.string (⟨#[]⟩ : ByteArray),.string (⟨#[]⟩ : ByteArray),.int .i64 0]) ?_ 0 _ rfl;(with_reducible repeat (first | refine blk_drewN ?_ _ | refine blk_drew ?_ | refine blk_alloc ?_ _));exact BK210.out) hb);have n2_ := Aside0.mk (below_step (by repeat (first | (with_reducible first | exact HB.out | apply below_alloc | apply pw_below_drewN | apply below_drew1 | refine below_set ?_ GE210.out) | exact HB.out)) hb);clear HO_7;clear BK210;clear HB;have HO_7 := n0_;have BK210 := n1_;have HB := n2_;clear n0_ n1_ n2_;(try clear hb);(try clear hb2);(try clear hk);(try clear hi);have hcz33_0 : w32.cell? ⟨gb210,0,none⟩ = some (.int .i64 ((rd_T52 l2 x8_2).f0)) := (blk_cell BK210.out 0).trans rfl;have hcz33_1 : w32.cell? ⟨gb210,1,none⟩ = some (.int .i64 ((rd_T52 l2 x8_2).f1)) := (blk_cell BK210.out 1).trans rfl;have hcz33_2 : w32.cell? ⟨gb210,2,none⟩ = some (.int .i64 ((rd_T52 l2 x8_2).f2)) := (blk_cell BK210.out 2).trans rfl;have hcz33_3 : w32.cell? ⟨gb210,3,none⟩ = some (.int .i64 ((rd_T52 l2 x8_2).f3)) := (blk_cell BK210.out 3).trans rfl;have hcz33_4 : w32.cell? ⟨gb210,4,none⟩ = some (.string ((rd_T52 l2 x8_2).f4)) := (blk_cell BK210.out 4).trans rfl;have hcz33_5 : w32.cell? ⟨gb210,5,none⟩ = some (.string ((rd_T52 l2 x8_2).f5)) := (blk_cell BK210.out 5).trans rfl;have hcz33_6 : w32.cell? ⟨gb210,6,none⟩ = some (.int .i64 ((rd_T52 l2 x8_2).f6)) := (blk_cell BK210.out 6).trans rfl;have hfz33_0 := blk_frozen BK210.out 0;have hfz33_1 := blk_frozen BK210.out 1;have hfz33_2 := blk_frozen BK210.out 2;have hfz33_3 := blk_frozen BK210.out 3;have hfz33_4 := blk_frozen BK210.out 4;have hfz33_5 := blk_frozen BK210.out 5;have hfz33_6 := blk_frozen BK210.out 6))
            go_meet
            case rel => exact ⟨_,(true),(by first | rfl | (simp;done) | (simp [*];done)),H',⟨by have := HJ3.out;have := HK2.out;first | omega | exact Nat.le_refl _⟩,⟨by (with_reducible repeat (first | apply Kd.R_alloc | apply Kd.R_drewN | apply Kd.R_drew));exact Kd.R_mono HO_7.out (fun _ hk => hk.2)⟩,⟨by (with_reducible repeat (first | refine blk_drewN ?_ _ | refine blk_drew ?_ | refine blk_alloc ?_ _));exact BK210.out⟩,⟨by repeat (first | (with_reducible first | exact HB.out | apply below_alloc | apply pw_below_drewN | apply below_drew1 | refine below_set ?_ GE210.out) | exact HB.out)⟩⟩
           ·rw [if_neg c30] at H
            have c30b0 : (((rd_T52 l2 x8_2).f0) == 7) = false := beq_eq_false_iff_ne.mpr c30
            have c30b1 : (((rd_T52 l2 x8_2).f0) != 7) = true := bne_iff_ne.mpr c30
            (first | rw [c30b0] | (simp only [i64_w,i32_w];rw [c30b0]) | skip)
            have H' := Aside0.mk H
            clear H
            have hcz34_0 : w24.cell? ⟨gb210,0,none⟩ = some (.int .i64 0) := (blk_cell BK210.out 0).trans rfl
            have hcz34_1 : w24.cell? ⟨gb210,1,none⟩ = some (.int .i64 0) := (blk_cell BK210.out 1).trans rfl
            have hcz34_2 : w24.cell? ⟨gb210,2,none⟩ = some (.int .i64 0) := (blk_cell BK210.out 2).trans rfl
            have hcz34_3 : w24.cell? ⟨gb210,3,none⟩ = some (.int .i64 0) := (blk_cell BK210.out 3).trans rfl
            have hcz34_4 : w24.cell? ⟨gb210,4,none⟩ = some (.string (⟨#[]⟩ : ByteArray)) := (blk_cell BK210.out 4).trans rfl
            have hcz34_5 : w24.cell? ⟨gb210,5,none⟩ = some (.string (⟨#[]⟩ : ByteArray)) := (blk_cell BK210.out 5).trans rfl
            have hcz34_6 : w24.cell? ⟨gb210,6,none⟩ = some (.int .i64 0) := (blk_cell BK210.out 6).trans rfl
            have hfz34_0 := blk_frozen BK210.out 0
            have hfz34_1 := blk_frozen BK210.out 1
            have hfz34_2 := blk_frozen BK210.out 2
            have hfz34_3 := blk_frozen BK210.out 3
            have hfz34_4 := blk_frozen BK210.out 4
            have hfz34_5 := blk_frozen BK210.out 5
            have hfz34_6 := blk_frozen BK210.out 6
            go_wp2_with (first | ((with_reducible refine gate_callee (f := 40) rfl ?_);refine goesL_ (some 38) rfl rfl Tryd.func40 (by kernel_rfl) rfl #[.int .i64 ((rd_T52 l2 x8_2).f0)] rfl (by (try simp only [List.map_toArray,List.map_cons,List.map_nil]);first | done | rfl | (simp only [List.length_drop,List.length_take];rfl)) ?_;(with_reducible refine (steelyardref14_Two.calls ((rd_T52 l2 x8_2).f0) false _ A26.out).mono ?_);rintro e w35 ⟨rfl,hb⟩;refine ⟨_,rfl,?_⟩;have n0_ := Aside0.mk (Kd.R_below (by (with_reducible repeat (first | apply Kd.R_alloc | apply Kd.R_drewN | apply Kd.R_drew));exact (Kd.R_mono (Kd.R_far (p := ⟨gb210,6,none⟩) (Kd.R_far (p := ⟨gb210,5,none⟩) (Kd.R_far (p := ⟨gb210,4,none⟩) (Kd.R_far (p := ⟨gb210,3,none⟩) (Kd.R_far (p := ⟨gb210,2,none⟩) (Kd.R_far (p := ⟨gb210,1,none⟩) (Kd.R_far (p := ⟨gb210,0,none⟩) (Kd.R_mono HO_7.out (fun k_ hk => (⟨hk,hk.2⟩ : _ ∧ k_ ≠ gb210))) (fun _ hk => hk.2) (.int .i64 ((rd_T52 l2 x8_2).f0))) (fun _ hk => hk.2) (.int .i64 ((rd_T52 l2 x8_2).f1))) (fun _ hk => hk.2) (.int .i64 ((rd_T52 l2 x8_2).f2))) (fun _ hk => hk.2) (.int .i64 ((rd_T52 l2 x8_2).f3))) (fun _ hk => hk.2) (.string ((rd_T52 l2 x8_2).f4))) (fun _ hk => hk.2) (.string ((rd_T52 l2 x8_2).f5))) (fun _ hk => hk.2) (.int .i64 ((rd_T52 l2 x8_2).f6))) (fun _ h_ => h_.1))) hb);have n1_ := Aside0.mk (blk_below (g := gb210) (o := .cells #[.int .i64 ((rd_T52 l2 x8_2).f0),.int .i64 ((rd_T52 l2 x8_2).f1),.int .i64 ((rd_T52 l2 x8_2).f2),.int .i64 ((rd_T52 l2 x8_2).f3),.string ((rd_T52 l2 x8_2).f4),.string ((rd_T52 l2 x8_2).f5),.int .i64 ((rd_T52 l2 x8_2).f6)] 52 (0,0)) (by (with_reducible repeat (first | refine blk_drewN ?_ _ | refine blk_drew ?_ | refine blk_alloc ?_ _));refine blk_put (cs := #[.int .i64 ((rd_T52 l2 x8_2).f0),.int .i64 ((rd_T52 l2 x8_2).f1),.int .i64 ((rd_T52 l2 x8_2).f2),.int .i64 ((rd_T52 l2 x8_2).f3),.string ((rd_T52 l2 x8_2).f4),.string ((rd_T52 l2 x8_2).f5),.int .i64 0]) ?_ 6 _ rfl;(with_reducible repeat (first | refine blk_drewN ?_ _ | refine blk_drew ?_ | refine blk_alloc ?_ _));refine blk_put (cs := #[.int .i64 ((rd_T52 l2 x8_2).f0),.int .i64 ((rd_T52 l2 x8_2).f1),.int .i64 ((rd_T52 l2 x8_2).f2),.int .i64 ((rd_T52 l2 x8_2).f3),.string ((rd_T52 l2 x8_2).f4),.string (⟨#[]⟩ : ByteArray),.int .i64 0]) ?_ 5 _ rfl;(with_reducible repeat (first | refine blk_drewN ?_ _ | refine blk_drew ?_ | refine blk_alloc ?_ _));refine blk_put (cs := #[.int .i64 ((rd_T52 l2 x8_2).f0),.int .i64 ((rd_T52 l2 x8_2).f1),.int .i64 ((rd_T52 l2 x8_2).f2),.int .i64 ((rd_T52 l2 x8_2).f3),.string (⟨#[]⟩ : ByteArray),.string (⟨#[]⟩ : ByteArray),.int .i64 0]) ?_ 4 _ rfl;(with_reducible repeat (first | refine blk_drewN ?_ _ | refine blk_drew ?_ | refine blk_alloc ?_ _));refine blk_put (cs := #[.int .i64 ((rd_T52 l2 x8_2).f0),.int .i64 ((rd_T52 l2 x8_2).f1),.int .i64 ((rd_T52 l2 x8_2).f2),.int .i64 0,.string (⟨#[]⟩ : ByteArray),.string (⟨#[]⟩ : ByteArray),.int .i64 0]) ?_ 3 _ rfl;(with_reducible repeat (first | refine blk_drewN ?_ _ | refine blk_drew ?_ | refine blk_alloc ?_ _));refine blk_put (cs := #[.int .i64 ((rd_T52 l2 x8_2).f0),.int .i64 ((rd_T52 l2 x8_2).f1),.int .i64 0,.int .i64 0,.string (⟨#[]⟩ : ByteArray),.string (⟨#[]⟩ : ByteArray),.int .i64 0]) ?_ 2 _ rfl;(with_reducible repeat (first | refine blk_drewN ?_ _ | refine blk_drew ?_ | refine blk_alloc ?_ _));refine blk_put (cs := #[.int .i64 ((rd_T52 l2 x8_2).f0),.int .i64 0,.int .i64 0,.int .i64 0,.string (⟨#[]⟩ : ByteArray),.string (⟨#[]⟩ : ByteArray),.int .i64 0]) ?_ 1 _ rfl;(with_reducible repeat (first | refine blk_drewN ?_ _ | refine blk_drew ?_ | refine blk_alloc ?_ _));refine blk_put (cs := #[.int .i64 0,.int .i64 0,.int .i64 0,.int .i64 0,.string (⟨#[]⟩ : ByteArray),.string (⟨#[]⟩ : ByteArray),.int .i64 0]) ?_ 0 _ rfl;(with_reducible repeat (first | refine blk_drewN ?_ _ | refine blk_drew ?_ | refine blk_alloc ?_ _));exact BK210.out) hb);have n2_ := Aside0.mk (below_step (by repeat (first | (with_reducible first | exact HB.out | apply below_alloc | apply pw_below_drewN | apply below_drew1 | refine below_set ?_ GE210.out) | exact HB.out)) hb);clear HO_7;clear BK210;clear HB;have HO_7 := n0_;have BK210 := n1_;have HB := n2_;clear n0_ n1_ n2_;(try clear hb);(try clear hb2);(try clear hk);(try clear hi);have hcz36_0 : w35.cell? ⟨gb210,0,none⟩ = some (.int .i64 ((rd_T52 l2 x8_2).f0)) := (blk_cell BK210.out 0).trans rfl;have hcz36_1 : w35.cell? ⟨gb210,1,none⟩ = some (.int .i64 ((rd_T52 l2 x8_2).f1)) := (blk_cell BK210.out 1).trans rfl;have hcz36_2 : w35.cell? ⟨gb210,2,none⟩ = some (.int .i64 ((rd_T52 l2 x8_2).f2)) := (blk_cell BK210.out 2).trans rfl;have hcz36_3 : w35.cell? ⟨gb210,3,none⟩ = some (.int .i64 ((rd_T52 l2 x8_2).f3)) := (blk_cell BK210.out 3).trans rfl;have hcz36_4 : w35.cell? ⟨gb210,4,none⟩ = some (.string ((rd_T52 l2 x8_2).f4)) := (blk_cell BK210.out 4).trans rfl;have hcz36_5 : w35.cell? ⟨gb210,5,none⟩ = some (.string ((rd_T52 l2 x8_2).f5)) := (blk_cell BK210.out 5).trans rfl;have hcz36_6 : w35.cell? ⟨gb210,6,none⟩ = some (.int .i64 ((rd_T52 l2 x8_2).f6)) := (blk_cell BK210.out 6).trans rfl;have hfz36_0 := blk_frozen BK210.out 0;have hfz36_1 := blk_frozen BK210.out 1;have hfz36_2 := blk_frozen BK210.out 2;have hfz36_3 := blk_frozen BK210.out 3;have hfz36_4 := blk_frozen BK210.out 4;have hfz36_5 := blk_frozen BK210.out 5;have hfz36_6 := blk_frozen BK210.out 6))
            go_meet
            case rel => exact ⟨_,((((rd_T52 l2 x8_2).f0) == 8)),(by first | rfl | (simp;done) | (simp [*];done)),H',⟨by have := HJ3.out;have := HK2.out;first | omega | exact Nat.le_refl _⟩,⟨by (with_reducible repeat (first | apply Kd.R_alloc | apply Kd.R_drewN | apply Kd.R_drew));exact Kd.R_mono HO_7.out (fun _ hk => hk.2)⟩,⟨by (with_reducible repeat (first | refine blk_drewN ?_ _ | refine blk_drew ?_ | refine blk_alloc ?_ _));exact BK210.out⟩,⟨by repeat (first | (with_reducible first | exact HB.out | apply below_alloc | apply pw_below_drewN | apply below_drew1 | refine below_set ?_ GE210.out) | exact HB.out)⟩⟩
         case rest =>
          clear HC23
          try clear c1
          try clear c2
          try clear p2
          try clear q2
          try clear hx2
          try clear c3
          try clear c4
          try clear c6
          try clear c8
          try clear c16
          try clear c17
          try clear p20
          try clear q20
          try clear hx20
          try clear c21
          try clear c21b0
          try clear c22
          try clear c22b0
          try clear c27
          try clear c30
          try clear c30b0
          try clear c30b1
          try clear c31
          try clear c34
          try clear hcz25_0
          try clear hcz25_1
          try clear hcz25_2
          try clear hcz25_3
          try clear hcz25_4
          try clear hcz25_5
          try clear hcz25_6
          try clear hcz28_0
          try clear hcz28_1
          try clear hcz28_2
          try clear hcz28_3
          try clear hcz28_4
          try clear hcz28_5
          try clear hcz28_6
          try clear hcz31_0
          try clear hcz31_1
          try clear hcz31_2
          try clear hcz31_3
          try clear hcz31_4
          try clear hcz31_5
          try clear hcz31_6
          try clear hcz33_0
          try clear hcz33_1
          try clear hcz33_2
          try clear hcz33_3
          try clear hcz33_4
          try clear hcz33_5
          try clear hcz33_6
          try clear hcz34_0
          try clear hcz34_1
          try clear hcz34_2
          try clear hcz34_3
          try clear hcz34_4
          try clear hcz34_5
          try clear hcz34_6
          try clear hcz36_0
          try clear hcz36_1
          try clear hcz36_2
          try clear hcz36_3
          try clear hcz36_4
          try clear hcz36_5
          try clear hcz36_6
          try clear hfz25_0
          try clear hfz25_1
          try clear hfz25_2
          try clear hfz25_3
          try clear hfz25_4
          try clear hfz25_5
          try clear hfz25_6
          try clear hfz28_0
          try clear hfz28_1
          try clear hfz28_2
          try clear hfz28_3
          try clear hfz28_4
          try clear hfz28_5
          try clear hfz28_6
          try clear hfz31_0
          try clear hfz31_1
          try clear hfz31_2
          try clear hfz31_3
          try clear hfz31_4
          try clear hfz31_5
          try clear hfz31_6
          try clear hfz33_0
          try clear hfz33_1
          try clear hfz33_2
          try clear hfz33_3
          try clear hfz33_4
          try clear hfz33_5
          try clear hfz33_6
          try clear hfz34_0
          try clear hfz34_1
          try clear hfz34_2
          try clear hfz34_3
          try clear hfz34_4
          try clear hfz34_5
          try clear hfz34_6
          try clear hfz36_0
          try clear hfz36_1
          try clear hfz36_2
          try clear hfz36_3
          try clear hfz36_4
          try clear hfz36_5
          try clear hfz36_6
          try clear hx209_0
          try clear hx209_1
          try clear hx209_2
          try clear hx209_3
          try clear hx209_4
          try clear hx209_5
          try clear hx209_6
          try clear p2
          try clear p209
          try clear q209
          obtain ⟨kq,x48_22,rfl,HA,HJ22,HO_7,BK210,HB⟩ := hcut
          cases kq with
          | zero => exact absurd HA.out (by simp [steelyardref14_Join.j2])
          | succ kj22 =>
           have H := HA.out
           clear HA
           simp only [steelyardref14_Join.j2] at H
           by_cases c37 : x48_22 = true
           ·subst c37
            have H1 : ((steelyardref14_Two.f ((rd_T52 l2 x8_2).f0)).bind fun t212 => (if t212 = true then (if x7_2.length < 1954687338268 then (steelyardref14_Join.l0 kj22 a0 l1 l2 (x7_2 ++ [(⟨((rd_T52 l2 x8_2).f0),wrap64 (((rd_T52 l2 x8_2).f1) + (l1.length : Int)),wrap64 (((rd_T52 l2 x8_2).f2) + (l1.length : Int)),((rd_T52 l2 x8_2).f3),((rd_T52 l2 x8_2).f4),((rd_T52 l2 x8_2).f5),((rd_T52 l2 x8_2).f6)⟩ : S52)]) (wrap64 (x8_2 + 1))) else (none)) else (if x7_2.length < 1954687338268 then (steelyardref14_Join.l0 kj22 a0 l1 l2 (x7_2 ++ [(⟨((rd_T52 l2 x8_2).f0),wrap64 (((rd_T52 l2 x8_2).f1) + (l1.length : Int)),((rd_T52 l2 x8_2).f2),((rd_T52 l2 x8_2).f3),((rd_T52 l2 x8_2).f4),((rd_T52 l2 x8_2).f5),((rd_T52 l2 x8_2).f6)⟩ : S52)]) (wrap64 (x8_2 + 1))) else (none)))) = some r := by rw [if_pos rfl] at H;exact H
            clear H
            have H := H1
            clear H1
            replace H := Option.bind_eq_some_iff.mp H
            obtain ⟨t212,A380,H⟩ := H
            replace H : (if t212 = true then (if x7_2.length < 1954687338268 then (steelyardref14_Join.l0 kj22 a0 l1 l2 (x7_2 ++ [(⟨((rd_T52 l2 x8_2).f0),wrap64 (((rd_T52 l2 x8_2).f1) + (l1.length : Int)),wrap64 (((rd_T52 l2 x8_2).f2) + (l1.length : Int)),((rd_T52 l2 x8_2).f3),((rd_T52 l2 x8_2).f4),((rd_T52 l2 x8_2).f5),((rd_T52 l2 x8_2).f6)⟩ : S52)]) (wrap64 (x8_2 + 1))) else (none)) else (if x7_2.length < 1954687338268 then (steelyardref14_Join.l0 kj22 a0 l1 l2 (x7_2 ++ [(⟨((rd_T52 l2 x8_2).f0),wrap64 (((rd_T52 l2 x8_2).f1) + (l1.length : Int)),((rd_T52 l2 x8_2).f2),((rd_T52 l2 x8_2).f3),((rd_T52 l2 x8_2).f4),((rd_T52 l2 x8_2).f5),((rd_T52 l2 x8_2).f6)⟩ : S52)]) (wrap64 (x8_2 + 1))) else (none))) = some r := H
            have A38 := Aside0.mk A380
            clear A380
            by_cases c39 : t212 = true
            ·subst c39
             have H1 : (if x7_2.length < 1954687338268 then (steelyardref14_Join.l0 kj22 a0 l1 l2 (x7_2 ++ [(⟨((rd_T52 l2 x8_2).f0),wrap64 (((rd_T52 l2 x8_2).f1) + (l1.length : Int)),wrap64 (((rd_T52 l2 x8_2).f2) + (l1.length : Int)),((rd_T52 l2 x8_2).f3),((rd_T52 l2 x8_2).f4),((rd_T52 l2 x8_2).f5),((rd_T52 l2 x8_2).f6)⟩ : S52)]) (wrap64 (x8_2 + 1))) else (none)) = some r := by rw [if_pos rfl] at H;exact H
             clear H
             have H := H1
             clear H1
             by_cases c40 : x7_2.length < 1954687338268
             ·rw [if_pos c40] at H
              have LMc40 := Aside0.mk c40
              clear c40
              obtain ⟨y213,hy213⟩ : ∃ y_ : List (S52),y_ = (x7_2 ++ [(⟨((rd_T52 l2 x8_2).f0),wrap64 (((rd_T52 l2 x8_2).f1) + (l1.length : Int)),wrap64 (((rd_T52 l2 x8_2).f2) + (l1.length : Int)),((rd_T52 l2 x8_2).f3),((rd_T52 l2 x8_2).f4),((rd_T52 l2 x8_2).f5),((rd_T52 l2 x8_2).f6)⟩ : S52)]) := ⟨_,rfl⟩
              replace H : (steelyardref14_Join.l0 kj22 a0 l1 l2 y213 (wrap64 (x8_2 + 1))) = some r := by first | (rw [hy213];with_reducible exact H) | (have H2_ := (Option.bind_some _ _).symm.trans H;rw [hy213];with_reducible exact H2_) | (have H2_ := (Option.bind_some _ _).symm.trans H;with_reducible exact H2_) | with_reducible exact H | (rw [hy213];exact H) | exact H
              have Ny213 := Aside0.mk hy213
              clear hy213
              have H' := Aside0.mk H
              clear H
              have hcz41_0 : wc.cell? ⟨gb210,0,none⟩ = some (.int .i64 ((rd_T52 l2 x8_2).f0)) := (blk_cell BK210.out 0).trans rfl
              have hcz41_1 : wc.cell? ⟨gb210,1,none⟩ = some (.int .i64 ((rd_T52 l2 x8_2).f1)) := (blk_cell BK210.out 1).trans rfl
              have hcz41_2 : wc.cell? ⟨gb210,2,none⟩ = some (.int .i64 ((rd_T52 l2 x8_2).f2)) := (blk_cell BK210.out 2).trans rfl
              have hcz41_3 : wc.cell? ⟨gb210,3,none⟩ = some (.int .i64 ((rd_T52 l2 x8_2).f3)) := (blk_cell BK210.out 3).trans rfl
              have hcz41_4 : wc.cell? ⟨gb210,4,none⟩ = some (.string ((rd_T52 l2 x8_2).f4)) := (blk_cell BK210.out 4).trans rfl
              have hcz41_5 : wc.cell? ⟨gb210,5,none⟩ = some (.string ((rd_T52 l2 x8_2).f5)) := (blk_cell BK210.out 5).trans rfl
              have hcz41_6 : wc.cell? ⟨gb210,6,none⟩ = some (.int .i64 ((rd_T52 l2 x8_2).f6)) := (blk_cell BK210.out 6).trans rfl
              have hfz41_0 := blk_frozen BK210.out 0
              have hfz41_1 := blk_frozen BK210.out 1
              have hfz41_2 := blk_frozen BK210.out 2
              have hfz41_3 := blk_frozen BK210.out 3
              have hfz41_4 := blk_frozen BK210.out 4
              have hfz41_5 := blk_frozen BK210.out 5
              have hfz41_6 := blk_frozen BK210.out 6
              go_wp2_with (first | ((with_reducible refine gate_callee (f := 40) rfl ?_);refine goesL_ (some 57) rfl rfl Tryd.func40 (by kernel_rfl) rfl #[.int .i64 ((rd_T52 l2 x8_2).f0)] rfl (by (try simp only [List.map_toArray,List.map_cons,List.map_nil]);first | done | rfl | (simp only [List.length_drop,List.length_take];rfl)) ?_;(with_reducible refine (steelyardref14_Two.calls ((rd_T52 l2 x8_2).f0) true _ A38.out).mono ?_);rintro e w42 ⟨rfl,hb⟩;refine ⟨_,rfl,?_⟩;have n0_ := Aside0.mk (Kd.R_below (by (with_reducible repeat (first | apply Kd.R_alloc | apply Kd.R_drewN | apply Kd.R_drew));exact (Kd.R_mono (Kd.R_far (p := ⟨gb210,1,none⟩) (Kd.R_mono HO_7.out (fun k_ hk => (⟨hk,hk⟩ : _ ∧ k_ ≠ gb210))) (fun _ hk => hk.2) (.int .i64 (wrap64 (((rd_T52 l2 x8_2).f1) + (l1.length : Int))))) (fun _ h_ => h_.1))) hb);have n1_ := Aside0.mk (blk_below (g := gb210) (o := .cells #[.int .i64 ((rd_T52 l2 x8_2).f0),.int .i64 (wrap64 (((rd_T52 l2 x8_2).f1) + (l1.length : Int))),.int .i64 ((rd_T52 l2 x8_2).f2),.int .i64 ((rd_T52 l2 x8_2).f3),.string ((rd_T52 l2 x8_2).f4),.string ((rd_T52 l2 x8_2).f5),.int .i64 ((rd_T52 l2 x8_2).f6)] 52 (0,0)) (by (with_reducible repeat (first | refine blk_drewN ?_ _ | refine blk_drew ?_ | refine blk_alloc ?_ _));refine blk_put (cs := #[.int .i64 ((rd_T52 l2 x8_2).f0),.int .i64 ((rd_T52 l2 x8_2).f1),.int .i64 ((rd_T52 l2 x8_2).f2),.int .i64 ((rd_T52 l2 x8_2).f3),.string ((rd_T52 l2 x8_2).f4),.string ((rd_T52 l2 x8_2).f5),.int .i64 ((rd_T52 l2 x8_2).f6)]) ?_ 1 _ rfl;(with_reducible repeat (first | refine blk_drewN ?_ _ | refine blk_drew ?_ | refine blk_alloc ?_ _));exact BK210.out) hb);have n2_ := Aside0.mk (below_step (by repeat (first | (with_reducible first | exact HB.out | apply below_alloc | apply pw_below_drewN | apply below_drew1 | refine below_set ?_ GE210.out) | exact HB.out)) hb);clear HO_7;clear BK210;clear HB;have HO_7 := n0_;have BK210 := n1_;have HB := n2_;clear n0_ n1_ n2_;(try clear hb);(try clear hb2);(try clear hk);(try clear hi);have hcz43_0 : w42.cell? ⟨gb210,0,none⟩ = some (.int .i64 ((rd_T52 l2 x8_2).f0)) := (blk_cell BK210.out 0).trans rfl;have hcz43_1 : w42.cell? ⟨gb210,1,none⟩ = some (.int .i64 (wrap64 (((rd_T52 l2 x8_2).f1) + (l1.length : Int)))) := (blk_cell BK210.out 1).trans rfl;have hcz43_2 : w42.cell? ⟨gb210,2,none⟩ = some (.int .i64 ((rd_T52 l2 x8_2).f2)) := (blk_cell BK210.out 2).trans rfl;have hcz43_3 : w42.cell? ⟨gb210,3,none⟩ = some (.int .i64 ((rd_T52 l2 x8_2).f3)) := (blk_cell BK210.out 3).trans rfl;have hcz43_4 : w42.cell? ⟨gb210,4,none⟩ = some (.string ((rd_T52 l2 x8_2).f4)) := (blk_cell BK210.out 4).trans rfl;have hcz43_5 : w42.cell? ⟨gb210,5,none⟩ = some (.string ((rd_T52 l2 x8_2).f5)) := (blk_cell BK210.out 5).trans rfl;have hcz43_6 : w42.cell? ⟨gb210,6,none⟩ = some (.int .i64 ((rd_T52 l2 x8_2).f6)) := (blk_cell BK210.out 6).trans rfl;have hfz43_0 := blk_frozen BK210.out 0;have hfz43_1 := blk_frozen BK210.out 1;have hfz43_2 := blk_frozen BK210.out 2;have hfz43_3 := blk_frozen BK210.out 3;have hfz43_4 := blk_frozen BK210.out 4;have hfz43_5 := blk_frozen BK210.out 5;have hfz43_6 := blk_frozen BK210.out 6) | ((with_reducible refine gate_builtin (b := .append) (xs := #[.tmp 64,.tmp 66]) rfl ?_);at_builtin;refine Kd.R_append k52 (w0 := w) w.heap.size rfl (.tmp 64) (.tmp 66) 39 52 (.agg #[(.int .i64 0),(.int .i64 0),(.int .i64 0),(.int .i64 0),(.string ⟨#[]⟩),(.string ⟨#[]⟩),(.int .i64 0)]) 72 rfl Tryd.underlying39 info52 rfl (by decide) (by omega) u7 x7_2 (⟨((rd_T52 l2 x8_2).f0),wrap64 (((rd_T52 l2 x8_2).f1) + (l1.length : Int)),wrap64 (((rd_T52 l2 x8_2).f2) + (l1.length : Int)),((rd_T52 l2 x8_2).f3),((rd_T52 l2 x8_2).f4),((rd_T52 l2 x8_2).f5),((rd_T52 l2 x8_2).f6)⟩ : S52) [.int .i64 ((rd_T52 l2 x8_2).f0),.int .i64 (wrap64 (((rd_T52 l2 x8_2).f1) + (l1.length : Int))),.int .i64 (wrap64 (((rd_T52 l2 x8_2).f2) + (l1.length : Int))),.int .i64 ((rd_T52 l2 x8_2).f3),.string ((rd_T52 l2 x8_2).f4),.string ((rd_T52 l2 x8_2).f5),.int .i64 ((rd_T52 l2 x8_2).f6)] (fun k_ => k_ ≠ gb210) (fun _ => False) rfl (by first | (go_simp;done) | (go_simp;rfl)) ?aP (fun _ hk => hk.elim) ?aF ?aO ?aB ?aS ?aL ?_;(case aP => exact k52_mkM _ _ _ (⟨((rd_T52 l2 x8_2).f0),wrap64 (((rd_T52 l2 x8_2).f1) + (l1.length : Int)),wrap64 (((rd_T52 l2 x8_2).f2) + (l1.length : Int)),((rd_T52 l2 x8_2).f3),((rd_T52 l2 x8_2).f4),((rd_T52 l2 x8_2).f5),((rd_T52 l2 x8_2).f6)⟩ : S52));(case aB => exact (by repeat (first | (with_reducible first | exact HB.out | apply below_alloc | apply pw_below_drewN | apply below_drew1 | refine below_set ?_ GE210.out) | exact HB.out)));(case aF => exact (fun k_ hk => Kd.freshB (g := gb210) (o := .cells #[.int .i64 ((rd_T52 l2 x8_2).f0),.int .i64 (wrap64 (((rd_T52 l2 x8_2).f1) + (l1.length : Int))),.int .i64 (wrap64 (((rd_T52 l2 x8_2).f2) + (l1.length : Int))),.int .i64 ((rd_T52 l2 x8_2).f3),.string ((rd_T52 l2 x8_2).f4),.string ((rd_T52 l2 x8_2).f5),.int .i64 ((rd_T52 l2 x8_2).f6)] 52 (0,0)) (by (with_reducible repeat (first | refine blk_drewN ?_ _ | refine blk_drew ?_ | refine blk_alloc ?_ _));refine blk_put (cs := #[.int .i64 ((rd_T52 l2 x8_2).f0),.int .i64 (wrap64 (((rd_T52 l2 x8_2).f1) + (l1.length : Int))),.int .i64 ((rd_T52 l2 x8_2).f2),.int .i64 ((rd_T52 l2 x8_2).f3),.string ((rd_T52 l2 x8_2).f4),.string ((rd_T52 l2 x8_2).f5),.int .i64 ((rd_T52 l2 x8_2).f6)]) ?_ 2 _ rfl;(with_reducible repeat (first | refine blk_drewN ?_ _ | refine blk_drew ?_ | refine blk_alloc ?_ _));exact BK210.out) k_ hk));(case aO => exact (by (with_reducible repeat (first | apply Kd.R_alloc | apply Kd.R_drewN | apply Kd.R_drew));exact Kd.R_mono (Kd.R_far (p := ⟨gb210,2,none⟩) (Kd.R_mono HO_7.out (fun k_ hk => (⟨hk,hk⟩ : _ ∧ k_ ≠ gb210))) (fun _ hk => hk.2) (.int .i64 (wrap64 (((rd_T52 l2 x8_2).f2) + (l1.length : Int))))) (fun _ hk => hk.1)));(case aS => exact (below_size (by repeat (first | (with_reducible first | exact HB.out | apply below_alloc | apply pw_below_drewN | apply below_drew1 | refine below_set ?_ GE210.out) | exact HB.out))));(case aL => have := LMc40.out;omega);intro v214 w44 ho hb hg hat;rw [← Ny213.out] at ho;have n0_ := Aside0.mk (blk_grown (g := gb210) (o := .cells #[.int .i64 ((rd_T52 l2 x8_2).f0),.int .i64 (wrap64 (((rd_T52 l2 x8_2).f1) + (l1.length : Int))),.int .i64 (wrap64 (((rd_T52 l2 x8_2).f2) + (l1.length : Int))),.int .i64 ((rd_T52 l2 x8_2).f3),.string ((rd_T52 l2 x8_2).f4),.string ((rd_T52 l2 x8_2).f5),.int .i64 ((rd_T52 l2 x8_2).f6)] 52 (0,0)) (by (with_reducible repeat (first | refine blk_drewN ?_ _ | refine blk_drew ?_ | refine blk_alloc ?_ _));refine blk_put (cs := #[.int .i64 ((rd_T52 l2 x8_2).f0),.int .i64 (wrap64 (((rd_T52 l2 x8_2).f1) + (l1.length : Int))),.int .i64 ((rd_T52 l2 x8_2).f2),.int .i64 ((rd_T52 l2 x8_2).f3),.string ((rd_T52 l2 x8_2).f4),.string ((rd_T52 l2 x8_2).f5),.int .i64 ((rd_T52 l2 x8_2).f6)]) ?_ 2 _ rfl;(with_reducible repeat (first | refine blk_drewN ?_ _ | refine blk_drew ?_ | refine blk_alloc ?_ _));exact BK210.out) hg (Kd.R_away HO_7.out (fun _ hk => hk)));have n1_ := Aside0.mk (hb);have n2_ := Aside0.mk (ho);clear BK210;clear HB;clear HO_7;have BK210 := n0_;have HB := n1_;have HO215 := n2_;clear n0_ n1_ n2_;clear ho hb hg hat))
              go_roundg kj22
              case measure => have := HJ3.out;have := HK2.out;have := HJ22.out;omega
              case rel => exact ⟨(y213),(wrap64 (x8_2 + 1)),(by first | rfl | (simp;done) | (simp [*];done)),H',⟨by have := HJ3.out;have := HK2.out;have := HJ22.out;omega⟩,⟨by (with_reducible repeat (first | apply Kd.R_alloc | apply Kd.R_drewN | apply Kd.R_drew));exact Kd.R_mono HO215.out (fun _ hk => trivial)⟩,⟨by repeat (first | (with_reducible first | exact HB.out | apply below_alloc | apply pw_below_drewN | apply below_drew1 | refine below_set ?_ GE210.out) | exact HB.out)⟩⟩
             ·rw [if_neg c40] at H
              exact absurd H (by simp)
            ·replace c39 := Bool.eq_false_iff.mpr c39
             subst c39
             have H1 : (if x7_2.length < 1954687338268 then (steelyardref14_Join.l0 kj22 a0 l1 l2 (x7_2 ++ [(⟨((rd_T52 l2 x8_2).f0),wrap64 (((rd_T52 l2 x8_2).f1) + (l1.length : Int)),((rd_T52 l2 x8_2).f2),((rd_T52 l2 x8_2).f3),((rd_T52 l2 x8_2).f4),((rd_T52 l2 x8_2).f5),((rd_T52 l2 x8_2).f6)⟩ : S52)]) (wrap64 (x8_2 + 1))) else (none)) = some r := by rw [if_neg (show ¬ (false = true) by decide)] at H;exact H
             clear H
             have H := H1
             clear H1
             by_cases c45 : x7_2.length < 1954687338268
             ·rw [if_pos c45] at H
              have LMc45 := Aside0.mk c45
              clear c45
              obtain ⟨y216,hy216⟩ : ∃ y_ : List (S52),y_ = (x7_2 ++ [(⟨((rd_T52 l2 x8_2).f0),wrap64 (((rd_T52 l2 x8_2).f1) + (l1.length : Int)),((rd_T52 l2 x8_2).f2),((rd_T52 l2 x8_2).f3),((rd_T52 l2 x8_2).f4),((rd_T52 l2 x8_2).f5),((rd_T52 l2 x8_2).f6)⟩ : S52)]) := ⟨_,rfl⟩
              replace H : (steelyardref14_Join.l0 kj22 a0 l1 l2 y216 (wrap64 (x8_2 + 1))) = some r := by first | (rw [hy216];with_reducible exact H) | (have H2_ := (Option.bind_some _ _).symm.trans H;rw [hy216];with_reducible exact H2_) | (have H2_ := (Option.bind_some _ _).symm.trans H;with_reducible exact H2_) | with_reducible exact H | (rw [hy216];exact H) | exact H
              have Ny216 := Aside0.mk hy216
              clear hy216
              have H' := Aside0.mk H
              clear H
              have hcz46_0 : wc.cell? ⟨gb210,0,none⟩ = some (.int .i64 ((rd_T52 l2 x8_2).f0)) := (blk_cell BK210.out 0).trans rfl
              have hcz46_1 : wc.cell? ⟨gb210,1,none⟩ = some (.int .i64 ((rd_T52 l2 x8_2).f1)) := (blk_cell BK210.out 1).trans rfl
              have hcz46_2 : wc.cell? ⟨gb210,2,none⟩ = some (.int .i64 ((rd_T52 l2 x8_2).f2)) := (blk_cell BK210.out 2).trans rfl
              have hcz46_3 : wc.cell? ⟨gb210,3,none⟩ = some (.int .i64 ((rd_T52 l2 x8_2).f3)) := (blk_cell BK210.out 3).trans rfl
              have hcz46_4 : wc.cell? ⟨gb210,4,none⟩ = some (.string ((rd_T52 l2 x8_2).f4)) := (blk_cell BK210.out 4).trans rfl
              have hcz46_5 : wc.cell? ⟨gb210,5,none⟩ = some (.string ((rd_T52 l2 x8_2).f5)) := (blk_cell BK210.out 5).trans rfl
              have hcz46_6 : wc.cell? ⟨gb210,6,none⟩ = some (.int .i64 ((rd_T52 l2 x8_2).f6)) := (blk_cell BK210.out 6).trans rfl
              have hfz46_0 := blk_frozen BK210.out 0
              have hfz46_1 := blk_frozen BK210.out 1
              have hfz46_2 := blk_frozen BK210.out 2
              have hfz46_3 := blk_frozen BK210.out 3
              have hfz46_4 := blk_frozen BK210.out 4
              have hfz46_5 := blk_frozen BK210.out 5
              have hfz46_6 := blk_frozen BK210.out 6
              go_wp2_with (first | ((with_reducible refine gate_callee (f := 40) rfl ?_);refine goesL_ (some 57) rfl rfl Tryd.func40 (by kernel_rfl) rfl #[.int .i64 ((rd_T52 l2 x8_2).f0)] rfl (by (try simp only [List.map_toArray,List.map_cons,List.map_nil]);first | done | rfl | (simp only [List.length_drop,List.length_take];rfl)) ?_;(with_reducible refine (steelyardref14_Two.calls ((rd_T52 l2 x8_2).f0) false _ A38.out).mono ?_);rintro e w47 ⟨rfl,hb⟩;refine ⟨_,rfl,?_⟩;have n0_ := Aside0.mk (Kd.R_below (by (with_reducible repeat (first | apply Kd.R_alloc | apply Kd.R_drewN | apply Kd.R_drew));exact (Kd.R_mono (Kd.R_far (p := ⟨gb210,1,none⟩) (Kd.R_mono HO_7.out (fun k_ hk => (⟨hk,hk⟩ : _ ∧ k_ ≠ gb210))) (fun _ hk => hk.2) (.int .i64 (wrap64 (((rd_T52 l2 x8_2).f1) + (l1.length : Int))))) (fun _ h_ => h_.1))) hb);have n1_ := Aside0.mk (blk_below (g := gb210) (o := .cells #[.int .i64 ((rd_T52 l2 x8_2).f0),.int .i64 (wrap64 (((rd_T52 l2 x8_2).f1) + (l1.length : Int))),.int .i64 ((rd_T52 l2 x8_2).f2),.int .i64 ((rd_T52 l2 x8_2).f3),.string ((rd_T52 l2 x8_2).f4),.string ((rd_T52 l2 x8_2).f5),.int .i64 ((rd_T52 l2 x8_2).f6)] 52 (0,0)) (by (with_reducible repeat (first | refine blk_drewN ?_ _ | refine blk_drew ?_ | refine blk_alloc ?_ _));refine blk_put (cs := #[.int .i64 ((rd_T52 l2 x8_2).f0),.int .i64 ((rd_T52 l2 x8_2).f1),.int .i64 ((rd_T52 l2 x8_2).f2),.int .i64 ((rd_T52 l2 x8_2).f3),.string ((rd_T52 l2 x8_2).f4),.string ((rd_T52 l2 x8_2).f5),.int .i64 ((rd_T52 l2 x8_2).f6)]) ?_ 1 _ rfl;(with_reducible repeat (first | refine blk_drewN ?_ _ | refine blk_drew ?_ | refine blk_alloc ?_ _));exact BK210.out) hb);have n2_ := Aside0.mk (below_step (by repeat (first | (with_reducible first | exact HB.out | apply below_alloc | apply pw_below_drewN | apply below_drew1 | refine below_set ?_ GE210.out) | exact HB.out)) hb);clear HO_7;clear BK210;clear HB;have HO_7 := n0_;have BK210 := n1_;have HB := n2_;clear n0_ n1_ n2_;(try clear hb);(try clear hb2);(try clear hk);(try clear hi);have hcz48_0 : w47.cell? ⟨gb210,0,none⟩ = some (.int .i64 ((rd_T52 l2 x8_2).f0)) := (blk_cell BK210.out 0).trans rfl;have hcz48_1 : w47.cell? ⟨gb210,1,none⟩ = some (.int .i64 (wrap64 (((rd_T52 l2 x8_2).f1) + (l1.length : Int)))) := (blk_cell BK210.out 1).trans rfl;have hcz48_2 : w47.cell? ⟨gb210,2,none⟩ = some (.int .i64 ((rd_T52 l2 x8_2).f2)) := (blk_cell BK210.out 2).trans rfl;have hcz48_3 : w47.cell? ⟨gb210,3,none⟩ = some (.int .i64 ((rd_T52 l2 x8_2).f3)) := (blk_cell BK210.out 3).trans rfl;have hcz48_4 : w47.cell? ⟨gb210,4,none⟩ = some (.string ((rd_T52 l2 x8_2).f4)) := (blk_cell BK210.out 4).trans rfl;have hcz48_5 : w47.cell? ⟨gb210,5,none⟩ = some (.string ((rd_T52 l2 x8_2).f5)) := (blk_cell BK210.out 5).trans rfl;have hcz48_6 : w47.cell? ⟨gb210,6,none⟩ = some (.int .i64 ((rd_T52 l2 x8_2).f6)) := (blk_cell BK210.out 6).trans rfl;have hfz48_0 := blk_frozen BK210.out 0;have hfz48_1 := blk_frozen BK210.out 1;have hfz48_2 := blk_frozen BK210.out 2;have hfz48_3 := blk_frozen BK210.out 3;have hfz48_4 := blk_frozen BK210.out 4;have hfz48_5 := blk_frozen BK210.out 5;have hfz48_6 := blk_frozen BK210.out 6) | ((with_reducible refine gate_builtin (b := .append) (xs := #[.tmp 64,.tmp 66]) rfl ?_);at_builtin;refine Kd.R_append k52 (w0 := w) w.heap.size rfl (.tmp 64) (.tmp 66) 39 52 (.agg #[(.int .i64 0),(.int .i64 0),(.int .i64 0),(.int .i64 0),(.string ⟨#[]⟩),(.string ⟨#[]⟩),(.int .i64 0)]) 72 rfl Tryd.underlying39 info52 rfl (by decide) (by omega) u7 x7_2 (⟨((rd_T52 l2 x8_2).f0),wrap64 (((rd_T52 l2 x8_2).f1) + (l1.length : Int)),((rd_T52 l2 x8_2).f2),((rd_T52 l2 x8_2).f3),((rd_T52 l2 x8_2).f4),((rd_T52 l2 x8_2).f5),((rd_T52 l2 x8_2).f6)⟩ : S52) [.int .i64 ((rd_T52 l2 x8_2).f0),.int .i64 (wrap64 (((rd_T52 l2 x8_2).f1) + (l1.length : Int))),.int .i64 ((rd_T52 l2 x8_2).f2),.int .i64 ((rd_T52 l2 x8_2).f3),.string ((rd_T52 l2 x8_2).f4),.string ((rd_T52 l2 x8_2).f5),.int .i64 ((rd_T52 l2 x8_2).f6)] (fun k_ => k_ ≠ gb210) (fun _ => False) rfl rfl ?aP (fun _ hk => hk.elim) ?aF ?aO ?aB ?aS ?aL ?_;(case aP => exact k52_mkM _ _ _ (⟨((rd_T52 l2 x8_2).f0),wrap64 (((rd_T52 l2 x8_2).f1) + (l1.length : Int)),((rd_T52 l2 x8_2).f2),((rd_T52 l2 x8_2).f3),((rd_T52 l2 x8_2).f4),((rd_T52 l2 x8_2).f5),((rd_T52 l2 x8_2).f6)⟩ : S52));(case aB => exact (by repeat (first | (with_reducible first | exact HB.out | apply below_alloc | apply pw_below_drewN | apply below_drew1 | refine below_set ?_ GE210.out) | exact HB.out)));(case aF => exact (fun k_ hk => Kd.freshB (g := gb210) (o := .cells #[.int .i64 ((rd_T52 l2 x8_2).f0),.int .i64 (wrap64 (((rd_T52 l2 x8_2).f1) + (l1.length : Int))),.int .i64 ((rd_T52 l2 x8_2).f2),.int .i64 ((rd_T52 l2 x8_2).f3),.string ((rd_T52 l2 x8_2).f4),.string ((rd_T52 l2 x8_2).f5),.int .i64 ((rd_T52 l2 x8_2).f6)] 52 (0,0)) (by (with_reducible repeat (first | refine blk_drewN ?_ _ | refine blk_drew ?_ | refine blk_alloc ?_ _));exact BK210.out) k_ hk));(case aO => exact (by (with_reducible repeat (first | apply Kd.R_alloc | apply Kd.R_drewN | apply Kd.R_drew));exact HO_7.out));(case aS => exact (below_size (by repeat (first | (with_reducible first | exact HB.out | apply below_alloc | apply pw_below_drewN | apply below_drew1 | refine below_set ?_ GE210.out) | exact HB.out))));(case aL => have := LMc45.out;omega);intro v217 w49 ho hb hg hat;rw [← Ny216.out] at ho;have n0_ := Aside0.mk (blk_grown (g := gb210) (o := .cells #[.int .i64 ((rd_T52 l2 x8_2).f0),.int .i64 (wrap64 (((rd_T52 l2 x8_2).f1) + (l1.length : Int))),.int .i64 ((rd_T52 l2 x8_2).f2),.int .i64 ((rd_T52 l2 x8_2).f3),.string ((rd_T52 l2 x8_2).f4),.string ((rd_T52 l2 x8_2).f5),.int .i64 ((rd_T52 l2 x8_2).f6)] 52 (0,0)) (by (with_reducible repeat (first | refine blk_drewN ?_ _ | refine blk_drew ?_ | refine blk_alloc ?_ _));exact BK210.out) hg (Kd.R_away HO_7.out (fun _ hk => hk)));have n1_ := Aside0.mk (hb);have n2_ := Aside0.mk (ho);clear BK210;clear HB;clear HO_7;have BK210 := n0_;have HB := n1_;have HO218 := n2_;clear n0_ n1_ n2_;clear ho hb hg hat))
              go_roundg kj22
              case measure => have := HJ3.out;have := HK2.out;have := HJ22.out;omega
              case rel => exact ⟨(y216),(wrap64 (x8_2 + 1)),(by first | rfl | (simp;done) | (simp [*];done)),H',⟨by have := HJ3.out;have := HK2.out;have := HJ22.out;omega⟩,⟨by (with_reducible repeat (first | apply Kd.R_alloc | apply Kd.R_drewN | apply Kd.R_drew));exact Kd.R_mono HO218.out (fun _ hk => trivial)⟩,⟨by repeat (first | (with_reducible first | exact HB.out | apply below_alloc | apply pw_below_drewN | apply below_drew1 | refine below_set ?_ GE210.out) | exact HB.out)⟩⟩
             ·rw [if_neg c45] at H
              exact absurd H (by simp)
           ·replace c37 := Bool.eq_false_iff.mpr c37
            subst c37
            have H1 : ((steelyardref14_Two.f ((rd_T52 l2 x8_2).f0)).bind fun t219 => (if t219 = true then (if x7_2.length < 1954687338268 then (steelyardref14_Join.l0 kj22 a0 l1 l2 (x7_2 ++ [(⟨((rd_T52 l2 x8_2).f0),((rd_T52 l2 x8_2).f1),wrap64 (((rd_T52 l2 x8_2).f2) + (l1.length : Int)),((rd_T52 l2 x8_2).f3),((rd_T52 l2 x8_2).f4),((rd_T52 l2 x8_2).f5),((rd_T52 l2 x8_2).f6)⟩ : S52)]) (wrap64 (x8_2 + 1))) else (none)) else (if x7_2.length < 1954687338268 then (steelyardref14_Join.l0 kj22 a0 l1 l2 (x7_2 ++ [(⟨((rd_T52 l2 x8_2).f0),((rd_T52 l2 x8_2).f1),((rd_T52 l2 x8_2).f2),((rd_T52 l2 x8_2).f3),((rd_T52 l2 x8_2).f4),((rd_T52 l2 x8_2).f5),((rd_T52 l2 x8_2).f6)⟩ : S52)]) (wrap64 (x8_2 + 1))) else (none)))) = some r := by rw [if_neg (show ¬ (false = true) by decide)] at H;exact H
            clear H
            have H := H1
            clear H1
            replace H := Option.bind_eq_some_iff.mp H
            obtain ⟨t219,A500,H⟩ := H
            replace H : (if t219 = true then (if x7_2.length < 1954687338268 then (steelyardref14_Join.l0 kj22 a0 l1 l2 (x7_2 ++ [(⟨((rd_T52 l2 x8_2).f0),((rd_T52 l2 x8_2).f1),wrap64 (((rd_T52 l2 x8_2).f2) + (l1.length : Int)),((rd_T52 l2 x8_2).f3),((rd_T52 l2 x8_2).f4),((rd_T52 l2 x8_2).f5),((rd_T52 l2 x8_2).f6)⟩ : S52)]) (wrap64 (x8_2 + 1))) else (none)) else (if x7_2.length < 1954687338268 then (steelyardref14_Join.l0 kj22 a0 l1 l2 (x7_2 ++ [(⟨((rd_T52 l2 x8_2).f0),((rd_T52 l2 x8_2).f1),((rd_T52 l2 x8_2).f2),((rd_T52 l2 x8_2).f3),((rd_T52 l2 x8_2).f4),((rd_T52 l2 x8_2).f5),((rd_T52 l2 x8_2).f6)⟩ : S52)]) (wrap64 (x8_2 + 1))) else (none))) = some r := H
            have A50 := Aside0.mk A500
            clear A500
            by_cases c51 : t219 = true
            ·subst c51
             have H1 : (if x7_2.length < 1954687338268 then (steelyardref14_Join.l0 kj22 a0 l1 l2 (x7_2 ++ [(⟨((rd_T52 l2 x8_2).f0),((rd_T52 l2 x8_2).f1),wrap64 (((rd_T52 l2 x8_2).f2) + (l1.length : Int)),((rd_T52 l2 x8_2).f3),((rd_T52 l2 x8_2).f4),((rd_T52 l2 x8_2).f5),((rd_T52 l2 x8_2).f6)⟩ : S52)]) (wrap64 (x8_2 + 1))) else (none)) = some r := by rw [if_pos rfl] at H;exact H
             clear H
             have H := H1
             clear H1
             by_cases c52 : x7_2.length < 1954687338268
             ·rw [if_pos c52] at H
              have LMc52 := Aside0.mk c52
              clear c52
              obtain ⟨y220,hy220⟩ : ∃ y_ : List (S52),y_ = (x7_2 ++ [(⟨((rd_T52 l2 x8_2).f0),((rd_T52 l2 x8_2).f1),wrap64 (((rd_T52 l2 x8_2).f2) + (l1.length : Int)),((rd_T52 l2 x8_2).f3),((rd_T52 l2 x8_2).f4),((rd_T52 l2 x8_2).f5),((rd_T52 l2 x8_2).f6)⟩ : S52)]) := ⟨_,rfl⟩
              replace H : (steelyardref14_Join.l0 kj22 a0 l1 l2 y220 (wrap64 (x8_2 + 1))) = some r := by first | (rw [hy220];with_reducible exact H) | (have H2_ := (Option.bind_some _ _).symm.trans H;rw [hy220];with_reducible exact H2_) | (have H2_ := (Option.bind_some _ _).symm.trans H;with_reducible exact H2_) | with_reducible exact H | (rw [hy220];exact H) | exact H
              have Ny220 := Aside0.mk hy220
              clear hy220
              have H' := Aside0.mk H
              clear H
              have hcz53_0 : wc.cell? ⟨gb210,0,none⟩ = some (.int .i64 ((rd_T52 l2 x8_2).f0)) := (blk_cell BK210.out 0).trans rfl
              have hcz53_1 : wc.cell? ⟨gb210,1,none⟩ = some (.int .i64 ((rd_T52 l2 x8_2).f1)) := (blk_cell BK210.out 1).trans rfl
              have hcz53_2 : wc.cell? ⟨gb210,2,none⟩ = some (.int .i64 ((rd_T52 l2 x8_2).f2)) := (blk_cell BK210.out 2).trans rfl
              have hcz53_3 : wc.cell? ⟨gb210,3,none⟩ = some (.int .i64 ((rd_T52 l2 x8_2).f3)) := (blk_cell BK210.out 3).trans rfl
              have hcz53_4 : wc.cell? ⟨gb210,4,none⟩ = some (.string ((rd_T52 l2 x8_2).f4)) := (blk_cell BK210.out 4).trans rfl
              have hcz53_5 : wc.cell? ⟨gb210,5,none⟩ = some (.string ((rd_T52 l2 x8_2).f5)) := (blk_cell BK210.out 5).trans rfl
              have hcz53_6 : wc.cell? ⟨gb210,6,none⟩ = some (.int .i64 ((rd_T52 l2 x8_2).f6)) := (blk_cell BK210.out 6).trans rfl
              have hfz53_0 := blk_frozen BK210.out 0
              have hfz53_1 := blk_frozen BK210.out 1
              have hfz53_2 := blk_frozen BK210.out 2
              have hfz53_3 := blk_frozen BK210.out 3
              have hfz53_4 := blk_frozen BK210.out 4
              have hfz53_5 := blk_frozen BK210.out 5
              have hfz53_6 := blk_frozen BK210.out 6
              go_wp2_with (first | ((with_reducible refine gate_callee (f := 40) rfl ?_);refine goesL_ (some 57) rfl rfl Tryd.func40 (by kernel_rfl) rfl #[.int .i64 ((rd_T52 l2 x8_2).f0)] rfl (by (try simp only [List.map_toArray,List.map_cons,List.map_nil]);first | done | rfl | (simp only [List.length_drop,List.length_take];rfl)) ?_;(with_reducible refine (steelyardref14_Two.calls ((rd_T52 l2 x8_2).f0) true _ A50.out).mono ?_);rintro e w54 ⟨rfl,hb⟩;refine ⟨_,rfl,?_⟩;have n0_ := Aside0.mk (Kd.R_below (by (with_reducible repeat (first | apply Kd.R_alloc | apply Kd.R_drewN | apply Kd.R_drew));exact HO_7.out) hb);have n1_ := Aside0.mk (blk_below (g := gb210) (o := .cells #[.int .i64 ((rd_T52 l2 x8_2).f0),.int .i64 ((rd_T52 l2 x8_2).f1),.int .i64 ((rd_T52 l2 x8_2).f2),.int .i64 ((rd_T52 l2 x8_2).f3),.string ((rd_T52 l2 x8_2).f4),.string ((rd_T52 l2 x8_2).f5),.int .i64 ((rd_T52 l2 x8_2).f6)] 52 (0,0)) (by (with_reducible repeat (first | refine blk_drewN ?_ _ | refine blk_drew ?_ | refine blk_alloc ?_ _));exact BK210.out) hb);have n2_ := Aside0.mk (below_step (by repeat (first | (with_reducible first | exact HB.out | apply below_alloc | apply pw_below_drewN | apply below_drew1 | refine below_set ?_ GE210.out) | exact HB.out)) hb);clear HO_7;clear BK210;clear HB;have HO_7 := n0_;have BK210 := n1_;have HB := n2_;clear n0_ n1_ n2_;(try clear hb);(try clear hb2);(try clear hk);(try clear hi);have hcz55_0 : w54.cell? ⟨gb210,0,none⟩ = some (.int .i64 ((rd_T52 l2 x8_2).f0)) := (blk_cell BK210.out 0).trans rfl;have hcz55_1 : w54.cell? ⟨gb210,1,none⟩ = some (.int .i64 ((rd_T52 l2 x8_2).f1)) := (blk_cell BK210.out 1).trans rfl;have hcz55_2 : w54.cell? ⟨gb210,2,none⟩ = some (.int .i64 ((rd_T52 l2 x8_2).f2)) := (blk_cell BK210.out 2).trans rfl;have hcz55_3 : w54.cell? ⟨gb210,3,none⟩ = some (.int .i64 ((rd_T52 l2 x8_2).f3)) := (blk_cell BK210.out 3).trans rfl;have hcz55_4 : w54.cell? ⟨gb210,4,none⟩ = some (.string ((rd_T52 l2 x8_2).f4)) := (blk_cell BK210.out 4).trans rfl;have hcz55_5 : w54.cell? ⟨gb210,5,none⟩ = some (.string ((rd_T52 l2 x8_2).f5)) := (blk_cell BK210.out 5).trans rfl;have hcz55_6 : w54.cell? ⟨gb210,6,none⟩ = some (.int .i64 ((rd_T52 l2 x8_2).f6)) := (blk_cell BK210.out 6).trans rfl;have hfz55_0 := blk_frozen BK210.out 0;have hfz55_1 := blk_frozen BK210.out 1;have hfz55_2 := blk_frozen BK210.out 2;have hfz55_3 := blk_frozen BK210.out 3;have hfz55_4 := blk_frozen BK210.out 4;have hfz55_5 := blk_frozen BK210.out 5;have hfz55_6 := blk_frozen BK210.out 6) | ((with_reducible refine gate_builtin (b := .append) (xs := #[.tmp 64,.tmp 66]) rfl ?_);at_builtin;refine Kd.R_append k52 (w0 := w) w.heap.size rfl (.tmp 64) (.tmp 66) 39 52 (.agg #[(.int .i64 0),(.int .i64 0),(.int .i64 0),(.int .i64 0),(.string ⟨#[]⟩),(.string ⟨#[]⟩),(.int .i64 0)]) 72 rfl Tryd.underlying39 info52 rfl (by decide) (by omega) u7 x7_2 (⟨((rd_T52 l2 x8_2).f0),((rd_T52 l2 x8_2).f1),wrap64 (((rd_T52 l2 x8_2).f2) + (l1.length : Int)),((rd_T52 l2 x8_2).f3),((rd_T52 l2 x8_2).f4),((rd_T52 l2 x8_2).f5),((rd_T52 l2 x8_2).f6)⟩ : S52) [.int .i64 ((rd_T52 l2 x8_2).f0),.int .i64 ((rd_T52 l2 x8_2).f1),.int .i64 (wrap64 (((rd_T52 l2 x8_2).f2) + (l1.length : Int))),.int .i64 ((rd_T52 l2 x8_2).f3),.string ((rd_T52 l2 x8_2).f4),.string ((rd_T52 l2 x8_2).f5),.int .i64 ((rd_T52 l2 x8_2).f6)] (fun k_ => k_ ≠ gb210) (fun _ => False) rfl (by first | (go_simp;done) | (go_simp;rfl)) ?aP (fun _ hk => hk.elim) ?aF ?aO ?aB ?aS ?aL ?_;(case aP => exact k52_mkM _ _ _ (⟨((rd_T52 l2 x8_2).f0),((rd_T52 l2 x8_2).f1),wrap64 (((rd_T52 l2 x8_2).f2) + (l1.length : Int)),((rd_T52 l2 x8_2).f3),((rd_T52 l2 x8_2).f4),((rd_T52 l2 x8_2).f5),((rd_T52 l2 x8_2).f6)⟩ : S52));(case aB => exact (by repeat (first | (with_reducible first | exact HB.out | apply below_alloc | apply pw_below_drewN | apply below_drew1 | refine below_set ?_ GE210.out) | exact HB.out)));(case aF => exact (fun k_ hk => Kd.freshB (g := gb210) (o := .cells #[.int .i64 ((rd_T52 l2 x8_2).f0),.int .i64 ((rd_T52 l2 x8_2).f1),.int .i64 (wrap64 (((rd_T52 l2 x8_2).f2) + (l1.length : Int))),.int .i64 ((rd_T52 l2 x8_2).f3),.string ((rd_T52 l2 x8_2).f4),.string ((rd_T52 l2 x8_2).f5),.int .i64 ((rd_T52 l2 x8_2).f6)] 52 (0,0)) (by (with_reducible repeat (first | refine blk_drewN ?_ _ | refine blk_drew ?_ | refine blk_alloc ?_ _));refine blk_put (cs := #[.int .i64 ((rd_T52 l2 x8_2).f0),.int .i64 ((rd_T52 l2 x8_2).f1),.int .i64 ((rd_T52 l2 x8_2).f2),.int .i64 ((rd_T52 l2 x8_2).f3),.string ((rd_T52 l2 x8_2).f4),.string ((rd_T52 l2 x8_2).f5),.int .i64 ((rd_T52 l2 x8_2).f6)]) ?_ 2 _ rfl;(with_reducible repeat (first | refine blk_drewN ?_ _ | refine blk_drew ?_ | refine blk_alloc ?_ _));exact BK210.out) k_ hk));(case aO => exact (by (with_reducible repeat (first | apply Kd.R_alloc | apply Kd.R_drewN | apply Kd.R_drew));exact Kd.R_mono (Kd.R_far (p := ⟨gb210,2,none⟩) (Kd.R_mono HO_7.out (fun k_ hk => (⟨hk,hk⟩ : _ ∧ k_ ≠ gb210))) (fun _ hk => hk.2) (.int .i64 (wrap64 (((rd_T52 l2 x8_2).f2) + (l1.length : Int))))) (fun _ hk => hk.1)));(case aS => exact (below_size (by repeat (first | (with_reducible first | exact HB.out | apply below_alloc | apply pw_below_drewN | apply below_drew1 | refine below_set ?_ GE210.out) | exact HB.out))));(case aL => have := LMc52.out;omega);intro v221 w56 ho hb hg hat;rw [← Ny220.out] at ho;have n0_ := Aside0.mk (blk_grown (g := gb210) (o := .cells #[.int .i64 ((rd_T52 l2 x8_2).f0),.int .i64 ((rd_T52 l2 x8_2).f1),.int .i64 (wrap64 (((rd_T52 l2 x8_2).f2) + (l1.length : Int))),.int .i64 ((rd_T52 l2 x8_2).f3),.string ((rd_T52 l2 x8_2).f4),.string ((rd_T52 l2 x8_2).f5),.int .i64 ((rd_T52 l2 x8_2).f6)] 52 (0,0)) (by (with_reducible repeat (first | refine blk_drewN ?_ _ | refine blk_drew ?_ | refine blk_alloc ?_ _));refine blk_put (cs := #[.int .i64 ((rd_T52 l2 x8_2).f0),.int .i64 ((rd_T52 l2 x8_2).f1),.int .i64 ((rd_T52 l2 x8_2).f2),.int .i64 ((rd_T52 l2 x8_2).f3),.string ((rd_T52 l2 x8_2).f4),.string ((rd_T52 l2 x8_2).f5),.int .i64 ((rd_T52 l2 x8_2).f6)]) ?_ 2 _ rfl;(with_reducible repeat (first | refine blk_drewN ?_ _ | refine blk_drew ?_ | refine blk_alloc ?_ _));exact BK210.out) hg (Kd.R_away HO_7.out (fun _ hk => hk)));have n1_ := Aside0.mk (hb);have n2_ := Aside0.mk (ho);clear BK210;clear HB;clear HO_7;have BK210 := n0_;have HB := n1_;have HO222 := n2_;clear n0_ n1_ n2_;clear ho hb hg hat))
              go_roundg kj22
              case measure => have := HJ3.out;have := HK2.out;have := HJ22.out;omega
              case rel => exact ⟨(y220),(wrap64 (x8_2 + 1)),(by first | rfl | (simp;done) | (simp [*];done)),H',⟨by have := HJ3.out;have := HK2.out;have := HJ22.out;omega⟩,⟨by (with_reducible repeat (first | apply Kd.R_alloc | apply Kd.R_drewN | apply Kd.R_drew));exact Kd.R_mono HO222.out (fun _ hk => trivial)⟩,⟨by repeat (first | (with_reducible first | exact HB.out | apply below_alloc | apply pw_below_drewN | apply below_drew1 | refine below_set ?_ GE210.out) | exact HB.out)⟩⟩
             ·rw [if_neg c52] at H
              exact absurd H (by simp)
            ·replace c51 := Bool.eq_false_iff.mpr c51
             subst c51
             have H1 : (if x7_2.length < 1954687338268 then (steelyardref14_Join.l0 kj22 a0 l1 l2 (x7_2 ++ [(⟨((rd_T52 l2 x8_2).f0),((rd_T52 l2 x8_2).f1),((rd_T52 l2 x8_2).f2),((rd_T52 l2 x8_2).f3),((rd_T52 l2 x8_2).f4),((rd_T52 l2 x8_2).f5),((rd_T52 l2 x8_2).f6)⟩ : S52)]) (wrap64 (x8_2 + 1))) else (none)) = some r := by rw [if_neg (show ¬ (false = true) by decide)] at H;exact H
             clear H
             have H := H1
             clear H1
             by_cases c57 : x7_2.length < 1954687338268
             ·rw [if_pos c57] at H
              have LMc57 := Aside0.mk c57
              clear c57
              obtain ⟨y223,hy223⟩ : ∃ y_ : List (S52),y_ = (x7_2 ++ [(⟨((rd_T52 l2 x8_2).f0),((rd_T52 l2 x8_2).f1),((rd_T52 l2 x8_2).f2),((rd_T52 l2 x8_2).f3),((rd_T52 l2 x8_2).f4),((rd_T52 l2 x8_2).f5),((rd_T52 l2 x8_2).f6)⟩ : S52)]) := ⟨_,rfl⟩
              replace H : (steelyardref14_Join.l0 kj22 a0 l1 l2 y223 (wrap64 (x8_2 + 1))) = some r := by first | (rw [hy223];with_reducible exact H) | (have H2_ := (Option.bind_some _ _).symm.trans H;rw [hy223];with_reducible exact H2_) | (have H2_ := (Option.bind_some _ _).symm.trans H;with_reducible exact H2_) | with_reducible exact H | (rw [hy223];exact H) | exact H
              have Ny223 := Aside0.mk hy223
              clear hy223
              have H' := Aside0.mk H
              clear H
              have hcz58_0 : wc.cell? ⟨gb210,0,none⟩ = some (.int .i64 ((rd_T52 l2 x8_2).f0)) := (blk_cell BK210.out 0).trans rfl
              have hcz58_1 : wc.cell? ⟨gb210,1,none⟩ = some (.int .i64 ((rd_T52 l2 x8_2).f1)) := (blk_cell BK210.out 1).trans rfl
              have hcz58_2 : wc.cell? ⟨gb210,2,none⟩ = some (.int .i64 ((rd_T52 l2 x8_2).f2)) := (blk_cell BK210.out 2).trans rfl
              have hcz58_3 : wc.cell? ⟨gb210,3,none⟩ = some (.int .i64 ((rd_T52 l2 x8_2).f3)) := (blk_cell BK210.out 3).trans rfl
              have hcz58_4 : wc.cell? ⟨gb210,4,none⟩ = some (.string ((rd_T52 l2 x8_2).f4)) := (blk_cell BK210.out 4).trans rfl
              have hcz58_5 : wc.cell? ⟨gb210,5,none⟩ = some (.string ((rd_T52 l2 x8_2).f5)) := (blk_cell BK210.out 5).trans rfl
              have hcz58_6 : wc.cell? ⟨gb210,6,none⟩ = some (.int .i64 ((rd_T52 l2 x8_2).f6)) := (blk_cell BK210.out 6).trans rfl
              have hfz58_0 := blk_frozen BK210.out 0
              have hfz58_1 := blk_frozen BK210.out 1
              have hfz58_2 := blk_frozen BK210.out 2
              have hfz58_3 := blk_frozen BK210.out 3
              have hfz58_4 := blk_frozen BK210.out 4
              have hfz58_5 := blk_frozen BK210.out 5
              have hfz58_6 := blk_frozen BK210.out 6
              go_wp2_with (first | ((with_reducible refine gate_callee (f := 40) rfl ?_);refine goesL_ (some 57) rfl rfl Tryd.func40 (by kernel_rfl) rfl #[.int .i64 ((rd_T52 l2 x8_2).f0)] rfl (by (try simp only [List.map_toArray,List.map_cons,List.map_nil]);first | done | rfl | (simp only [List.length_drop,List.length_take];rfl)) ?_;(with_reducible refine (steelyardref14_Two.calls ((rd_T52 l2 x8_2).f0) false _ A50.out).mono ?_);rintro e w59 ⟨rfl,hb⟩;refine ⟨_,rfl,?_⟩;have n0_ := Aside0.mk (Kd.R_below (by (with_reducible repeat (first | apply Kd.R_alloc | apply Kd.R_drewN | apply Kd.R_drew));exact HO_7.out) hb);have n1_ := Aside0.mk (blk_below (g := gb210) (o := .cells #[.int .i64 ((rd_T52 l2 x8_2).f0),.int .i64 ((rd_T52 l2 x8_2).f1),.int .i64 ((rd_T52 l2 x8_2).f2),.int .i64 ((rd_T52 l2 x8_2).f3),.string ((rd_T52 l2 x8_2).f4),.string ((rd_T52 l2 x8_2).f5),.int .i64 ((rd_T52 l2 x8_2).f6)] 52 (0,0)) (by (with_reducible repeat (first | refine blk_drewN ?_ _ | refine blk_drew ?_ | refine blk_alloc ?_ _));exact BK210.out) hb);have n2_ := Aside0.mk (below_step (by repeat (first | (with_reducible first | exact HB.out | apply below_alloc | apply pw_below_drewN | apply below_drew1 | refine below_set ?_ GE210.out) | exact HB.out)) hb);clear HO_7;clear BK210;clear HB;have HO_7 := n0_;have BK210 := n1_;have HB := n2_;clear n0_ n1_ n2_;(try clear hb);(try clear hb2);(try clear hk);(try clear hi);have hcz60_0 : w59.cell? ⟨gb210,0,none⟩ = some (.int .i64 ((rd_T52 l2 x8_2).f0)) := (blk_cell BK210.out 0).trans rfl;have hcz60_1 : w59.cell? ⟨gb210,1,none⟩ = some (.int .i64 ((rd_T52 l2 x8_2).f1)) := (blk_cell BK210.out 1).trans rfl;have hcz60_2 : w59.cell? ⟨gb210,2,none⟩ = some (.int .i64 ((rd_T52 l2 x8_2).f2)) := (blk_cell BK210.out 2).trans rfl;have hcz60_3 : w59.cell? ⟨gb210,3,none⟩ = some (.int .i64 ((rd_T52 l2 x8_2).f3)) := (blk_cell BK210.out 3).trans rfl;have hcz60_4 : w59.cell? ⟨gb210,4,none⟩ = some (.string ((rd_T52 l2 x8_2).f4)) := (blk_cell BK210.out 4).trans rfl;have hcz60_5 : w59.cell? ⟨gb210,5,none⟩ = some (.string ((rd_T52 l2 x8_2).f5)) := (blk_cell BK210.out 5).trans rfl;have hcz60_6 : w59.cell? ⟨gb210,6,none⟩ = some (.int .i64 ((rd_T52 l2 x8_2).f6)) := (blk_cell BK210.out 6).trans rfl;have hfz60_0 := blk_frozen BK210.out 0;have hfz60_1 := blk_frozen BK210.out 1;have hfz60_2 := blk_frozen BK210.out 2;have hfz60_3 := blk_frozen BK210.out 3;have hfz60_4 := blk_frozen BK210.out 4;have hfz60_5 := blk_frozen BK210.out 5;have hfz60_6 := blk_frozen BK210.out 6) | ((with_reducible refine gate_builtin (b := .append) (xs := #[.tmp 64,.tmp 66]) rfl ?_);at_builtin;refine Kd.R_append k52 (w0 := w) w.heap.size rfl (.tmp 64) (.tmp 66) 39 52 (.agg #[(.int .i64 0),(.int .i64 0),(.int .i64 0),(.int .i64 0),(.string ⟨#[]⟩),(.string ⟨#[]⟩),(.int .i64 0)]) 72 rfl Tryd.underlying39 info52 rfl (by decide) (by omega) u7 x7_2 (⟨((rd_T52 l2 x8_2).f0),((rd_T52 l2 x8_2).f1),((rd_T52 l2 x8_2).f2),((rd_T52 l2 x8_2).f3),((rd_T52 l2 x8_2).f4),((rd_T52 l2 x8_2).f5),((rd_T52 l2 x8_2).f6)⟩ : S52) [.int .i64 ((rd_T52 l2 x8_2).f0),.int .i64 ((rd_T52 l2 x8_2).f1),.int .i64 ((rd_T52 l2 x8_2).f2),.int .i64 ((rd_T52 l2 x8_2).f3),.string ((rd_T52 l2 x8_2).f4),.string ((rd_T52 l2 x8_2).f5),.int .i64 ((rd_T52 l2 x8_2).f6)] (fun k_ => k_ ≠ gb210) (fun _ => False) rfl rfl ?aP (fun _ hk => hk.elim) ?aF ?aO ?aB ?aS ?aL ?_;(case aP => exact k52_mkM _ _ _ (⟨((rd_T52 l2 x8_2).f0),((rd_T52 l2 x8_2).f1),((rd_T52 l2 x8_2).f2),((rd_T52 l2 x8_2).f3),((rd_T52 l2 x8_2).f4),((rd_T52 l2 x8_2).f5),((rd_T52 l2 x8_2).f6)⟩ : S52));(case aB => exact (by repeat (first | (with_reducible first | exact HB.out | apply below_alloc | apply pw_below_drewN | apply below_drew1 | refine below_set ?_ GE210.out) | exact HB.out)));(case aF => exact (fun k_ hk => Kd.freshB (g := gb210) (o := .cells #[.int .i64 ((rd_T52 l2 x8_2).f0),.int .i64 ((rd_T52 l2 x8_2).f1),.int .i64 ((rd_T52 l2 x8_2).f2),.int .i64 ((rd_T52 l2 x8_2).f3),.string ((rd_T52 l2 x8_2).f4),.string ((rd_T52 l2 x8_2).f5),.int .i64 ((rd_T52 l2 x8_2).f6)] 52 (0,0)) (by (with_reducible repeat (first | refine blk_drewN ?_ _ | refine blk_drew ?_ | refine blk_alloc ?_ _));exact BK210.out) k_ hk));(case aO => exact (by (with_reducible repeat (first | apply Kd.R_alloc | apply Kd.R_drewN | apply Kd.R_drew));exact HO_7.out));(case aS => exact (below_size (by repeat (first | (with_reducible first | exact HB.out | apply below_alloc | apply pw_below_drewN | apply below_drew1 | refine below_set ?_ GE210.out) | exact HB.out))));(case aL => have := LMc57.out;omega);intro v224 w61 ho hb hg hat;rw [← Ny223.out] at ho;have n0_ := Aside0.mk (blk_grown (g := gb210) (o := .cells #[.int .i64 ((rd_T52 l2 x8_2).f0),.int .i64 ((rd_T52 l2 x8_2).f1),.int .i64 ((rd_T52 l2 x8_2).f2),.int .i64 ((rd_T52 l2 x8_2).f3),.string ((rd_T52 l2 x8_2).f4),.string ((rd_T52 l2 x8_2).f5),.int .i64 ((rd_T52 l2 x8_2).f6)] 52 (0,0)) (by (with_reducible repeat (first | refine blk_drewN ?_ _ | refine blk_drew ?_ | refine blk_alloc ?_ _));exact BK210.out) hg (Kd.R_away HO_7.out (fun _ hk => hk)));have n1_ := Aside0.mk (hb);have n2_ := Aside0.mk (ho);clear BK210;clear HB;clear HO_7;have BK210 := n0_;have HB := n1_;have HO225 := n2_;clear n0_ n1_ n2_;clear ho hb hg hat))
              go_roundg kj22
              case measure => have := HJ3.out;have := HK2.out;have := HJ22.out;omega
              case rel => exact ⟨(y223),(wrap64 (x8_2 + 1)),(by first | rfl | (simp;done) | (simp [*];done)),H',⟨by have := HJ3.out;have := HK2.out;have := HJ22.out;omega⟩,⟨by (with_reducible repeat (first | apply Kd.R_alloc | apply Kd.R_drewN | apply Kd.R_drew));exact Kd.R_mono HO225.out (fun _ hk => trivial)⟩,⟨by repeat (first | (with_reducible first | exact HB.out | apply below_alloc | apply pw_below_drewN | apply below_drew1 | refine below_set ?_ GE210.out) | exact HB.out)⟩⟩
             ·rw [if_neg c57] at H
              exact absurd H (by simp)
        ·rw [if_neg c22] at H
         exact absurd H (by simp)
       ·rw [if_neg c21] at H
        have c21b0 : decide (x8_2 < (l2.length : Int)) = false := decide_eq_false c21
        clear c21
        by_cases c62 : x7_2.length < 1954687338268
        ·rw [if_pos c62] at H
         have LMc62 := Aside0.mk c62
         clear c62
         obtain ⟨y203,hy203⟩ : ∃ y_ : List (S52),y_ = (x7_2 ++ [(⟨a0,wrap64 ((l1.length : Int) - 1),wrap64 ((wrap64 ((l1.length : Int) + (l2.length : Int))) - 1),0,(⟨#[]⟩ : ByteArray),(⟨#[]⟩ : ByteArray),0⟩ : S52)]) := ⟨_,rfl⟩
         replace H : ((steelyardref14_whole.f y203).bind fun t206 => (some t206)) = some r := by first | (rw [hy203];with_reducible exact H) | (have H2_ := (Option.bind_some _ _).symm.trans H;rw [hy203];with_reducible exact H2_) | (have H2_ := (Option.bind_some _ _).symm.trans H;with_reducible exact H2_) | with_reducible exact H | (rw [hy203];exact H) | exact H
         have Ny203 := Aside0.mk hy203
         clear hy203
         replace H := Option.bind_eq_some_iff.mp H
         obtain ⟨t206,A630,H⟩ := H
         replace H : (some t206) = some r := H
         have A63 := Aside0.mk A630
         clear A630
         obtain rfl := Option.some.inj H
         go_wp2_with (first | ((with_reducible refine gate_builtin (b := .append) (xs := #[.tmp 68,.tmp 80]) rfl ?_);at_builtin;refine Kd.R_append k52 (w0 := w) w.heap.size rfl (.tmp 68) (.tmp 80) 39 52 (.agg #[(.int .i64 0),(.int .i64 0),(.int .i64 0),(.int .i64 0),(.string ⟨#[]⟩),(.string ⟨#[]⟩),(.int .i64 0)]) 72 rfl Tryd.underlying39 info52 rfl (by decide) (by omega) u7 x7_2 (⟨a0,wrap64 ((l1.length : Int) - 1),wrap64 ((wrap64 ((l1.length : Int) + (l2.length : Int))) - 1),0,(⟨#[]⟩ : ByteArray),(⟨#[]⟩ : ByteArray),0⟩ : S52) [.int .i64 a0,.int .i64 (wrap64 ((l1.length : Int) - 1)),.int .i64 (wrap64 ((wrap64 ((l1.length : Int) + (l2.length : Int))) - 1)),.int .i64 0,.string (⟨#[]⟩ : ByteArray),.string (⟨#[]⟩ : ByteArray),.int .i64 0] (fun _ => True) (fun _ => False) rfl rfl ?aP (fun _ hk => hk.elim) ?aF ?aO ?aB ?aS ?aL ?_;(case aP => exact k52_mkM _ _ _ (⟨a0,wrap64 ((l1.length : Int) - 1),wrap64 ((wrap64 ((l1.length : Int) + (l2.length : Int))) - 1),0,(⟨#[]⟩ : ByteArray),(⟨#[]⟩ : ByteArray),0⟩ : S52));(case aB => exact (by repeat (first | (with_reducible first | exact HB.out | apply below_alloc | apply pw_below_drewN | apply below_drew1) | exact HB.out)));(case aF => exact (fun _ _ => trivial));(case aO => exact (by (with_reducible repeat (first | apply Kd.R_alloc | apply Kd.R_drewN | apply Kd.R_drew));exact HO_7.out));(case aS => exact (below_size (by repeat (first | (with_reducible first | exact HB.out | apply below_alloc | apply pw_below_drewN | apply below_drew1) | exact HB.out))));(case aL => have := LMc62.out;omega);intro v204 w64 ho hb hg hat;rw [← Ny203.out] at ho;have n0_ := Aside0.mk (hb);have n1_ := Aside0.mk (ho);clear HB;clear HO_7;have HB := n0_;have HO205 := n1_;clear n0_ n1_;clear ho hb hg hat;obtain ⟨Ao65,co65,eo65⟩ := Kd.R_slice HO205.out;subst eo65) | ((with_reducible refine gate_callee (f := 62) rfl ?_);refine goesL_ (some 82) rfl rfl Tryd.func62 (by kernel_rfl) rfl #[.slice Ao65 y203.length co65] rfl (by (try simp only [List.map_toArray,List.map_cons,List.map_nil]);first | done | rfl | (simp only [List.length_drop,List.length_take];rfl)) ?_;(with_reducible refine (steelyardref14_whole.calls (fun k_ => some k_ = (.slice Ao65 y203.length co65 : Value).ownBlock) (.slice Ao65 y203.length co65) y203 t206 w _ ?side1 ?side2 A63.out).mono ?_);(case side1 => repeat (first | (with_reducible first | exact HB.out | apply below_alloc | apply pw_below_drewN | apply below_drew1) | exact HB.out));(case side2 => exact Kd.R_tight rfl HO205.out);rintro e w66 ⟨v207,rfl,ho0,hb,hkp⟩;refine ⟨_,rfl,?_⟩;have n0_ := Aside0.mk (Kd.R_mono (ok' := fun k_ => True) ho0 (fun k_ hk_ => trivial));have n1_ := Aside0.mk (hb);clear HB;clear HO205;have HO208 := n0_;have HB := n1_;clear n0_ n1_;(try clear hb);(try clear hkp);(try clear ho0)))
         go_ret
         exact ⟨_,by first | rfl | (simp [errW_none,errW_some] <;> rfl) | (simp [*,errW_none,errW_some] <;> rfl),by (with_reducible repeat (first | apply Kd.R_alloc | apply Kd.R_drewN | apply Kd.R_drew));exact HO208.out,by repeat (first | (with_reducible first | exact HB.out | apply below_alloc | apply pw_below_drewN | apply below_drew1) | exact HB.out)⟩
        ·rw [if_neg c62] at H
         exact absurd H (by simp)
    ·rw [if_neg c17] at H
     exact absurd H (by simp)
def steelyardref14_Over.f (l0 : List (S52)) (a1 : Int) (a2 : Int) : Option ((List (S52))) := (steelyardref14_Good.f l0).bind fun t226 => (if t226 = true then ((some (([] : List (S52)) : List (S52))).bind fun y227 => (if y227.length + l0.length < 1954687338268 then ((some (y227 ++ l0 : List (S52))).bind fun y230 => (if y230.length < 1954687338268 then ((steelyardref14_whole.f (y230 ++ [(⟨a1,wrap64 ((l0.length : Int) - 1),0,a2,(⟨#[]⟩ : ByteArray),(⟨#[]⟩ : ByteArray),0⟩ : S52)])).bind fun t236 => (some t236)) else (none))) else (none))) else (some ([] : List (S52))))
set_option maxHeartbeats 8000000 in
set_option maxRecDepth 100000 in
theorem steelyardref14_Over.calls (A0 : Option Addr) (c0 : Nat) (l0 : List (S52)) (a1 : Int) (a2 : Int) (r : List (S52)) (w : World) (hr0 : Kd.C k52 w A0 l0.length l0) (hc0 : l0.length ≤ c0) (h : steelyardref14_Over.f l0 a1 a2 = some r) :
 Calls Tryd.prog 32 #[.slice A0 l0.length c0,.int .i64 a1,.int .i64 a2] w fun e w' => ∃ v0_ : Value,e = .returned (v0_) ∧ Kd.R k52 52 w' w.heap.size (fun _ => True) v0_ r ∧ Below w.heap.size w w' := by
 have hu52 := Tryd.underlying52
 have HR0 := Aside0.mk hr0
 have HC0 := Aside0.mk hc0
 clear hr0 hc0
 have HB := Aside0.mk (Below.refl w.heap.size w)
 have H : ((steelyardref14_Good.f l0).bind fun t226 => (if t226 = true then ((some (([] : List (S52)) : List (S52))).bind fun y227 => (if y227.length + l0.length < 1954687338268 then ((some (y227 ++ l0 : List (S52))).bind fun y230 => (if y230.length < 1954687338268 then ((steelyardref14_whole.f (y230 ++ [(⟨a1,wrap64 ((l0.length : Int) - 1),0,a2,(⟨#[]⟩ : ByteArray),(⟨#[]⟩ : ByteArray),0⟩ : S52)])).bind fun t236 => (some t236)) else (none))) else (none))) else (some ([] : List (S52))))) = some r := h
 clear h
 replace H := Option.bind_eq_some_iff.mp H
 obtain ⟨t226,A40,H⟩ := H
 replace H : (if t226 = true then ((some (([] : List (S52)) : List (S52))).bind fun y227 => (if y227.length + l0.length < 1954687338268 then ((some (y227 ++ l0 : List (S52))).bind fun y230 => (if y230.length < 1954687338268 then ((steelyardref14_whole.f (y230 ++ [(⟨a1,wrap64 ((l0.length : Int) - 1),0,a2,(⟨#[]⟩ : ByteArray),(⟨#[]⟩ : ByteArray),0⟩ : S52)])).bind fun t236 => (some t236)) else (none))) else (none))) else (some ([] : List (S52)))) = some r := H
 have A4 := Aside0.mk A40
 clear A40
 by_cases c5 : t226 = true
 ·subst c5
  have H1 : ((some (([] : List (S52)) : List (S52))).bind fun y227 => (if y227.length + l0.length < 1954687338268 then ((some (y227 ++ l0 : List (S52))).bind fun y230 => (if y230.length < 1954687338268 then ((steelyardref14_whole.f (y230 ++ [(⟨a1,wrap64 ((l0.length : Int) - 1),0,a2,(⟨#[]⟩ : ByteArray),(⟨#[]⟩ : ByteArray),0⟩ : S52)])).bind fun t236 => (some t236)) else (none))) else (none))) = some r := by rw [if_pos rfl] at H;exact H
  clear H
  have H := H1
  clear H1
  obtain ⟨y227,hy227⟩ : ∃ y_ : List (S52),y_ = (([] : List (S52))) := ⟨_,rfl⟩
  replace H : (if y227.length + l0.length < 1954687338268 then ((some (y227 ++ l0 : List (S52))).bind fun y230 => (if y230.length < 1954687338268 then ((steelyardref14_whole.f (y230 ++ [(⟨a1,wrap64 ((l0.length : Int) - 1),0,a2,(⟨#[]⟩ : ByteArray),(⟨#[]⟩ : ByteArray),0⟩ : S52)])).bind fun t236 => (some t236)) else (none))) else (none)) = some r := by first | (rw [hy227];with_reducible exact H) | (have H2_ := (Option.bind_some _ _).symm.trans H;rw [hy227];with_reducible exact H2_) | (have H2_ := (Option.bind_some _ _).symm.trans H;with_reducible exact H2_) | with_reducible exact H | (rw [hy227];exact H) | exact H
  have Ny227 := Aside0.mk hy227
  clear hy227
  by_cases c6 : y227.length + l0.length < 1954687338268
  ·rw [if_pos c6] at H
   have LMc6 := Aside0.mk c6
   clear c6
   obtain ⟨y230,hy230⟩ : ∃ y_ : List (S52),y_ = (y227 ++ l0) := ⟨_,rfl⟩
   replace H : (if y230.length < 1954687338268 then ((steelyardref14_whole.f (y230 ++ [(⟨a1,wrap64 ((l0.length : Int) - 1),0,a2,(⟨#[]⟩ : ByteArray),(⟨#[]⟩ : ByteArray),0⟩ : S52)])).bind fun t236 => (some t236)) else (none)) = some r := by first | (rw [hy230];with_reducible exact H) | (have H2_ := (Option.bind_some _ _).symm.trans H;rw [hy230];with_reducible exact H2_) | (have H2_ := (Option.bind_some _ _).symm.trans H;with_reducible exact H2_) | with_reducible exact H | (rw [hy230];exact H) | exact H
   have Ny230 := Aside0.mk hy230
   clear hy230
   by_cases c7 : y230.length < 1954687338268
   ·rw [if_pos c7] at H
    have LMc7 := Aside0.mk c7
    clear c7
    obtain ⟨y233,hy233⟩ : ∃ y_ : List (S52),y_ = (y230 ++ [(⟨a1,wrap64 ((l0.length : Int) - 1),0,a2,(⟨#[]⟩ : ByteArray),(⟨#[]⟩ : ByteArray),0⟩ : S52)]) := ⟨_,rfl⟩
    replace H : ((steelyardref14_whole.f y233).bind fun t236 => (some t236)) = some r := by first | (rw [hy233];with_reducible exact H) | (have H2_ := (Option.bind_some _ _).symm.trans H;rw [hy233];with_reducible exact H2_) | (have H2_ := (Option.bind_some _ _).symm.trans H;with_reducible exact H2_) | with_reducible exact H | (rw [hy233];exact H) | exact H
    have Ny233 := Aside0.mk hy233
    clear hy233
    replace H := Option.bind_eq_some_iff.mp H
    obtain ⟨t236,A80,H⟩ := H
    replace H : (some t236) = some r := H
    have A8 := Aside0.mk A80
    clear A80
    obtain rfl := Option.some.inj H
    go_enter Tryd.func32,Tryd.ntmps32
    go_wp2_with (first | ((with_reducible refine gate_callee (f := 34) rfl ?_);refine goesL_ (some 8) rfl rfl Tryd.func34 (by kernel_rfl) rfl #[.slice A0 l0.length c0] rfl (by (try simp only [List.map_toArray,List.map_cons,List.map_nil]);first | done | rfl | (simp only [List.length_drop,List.length_take];rfl)) ?_;(with_reducible refine (steelyardref14_Good.calls _ _ l0 true _ ?side1 ?side2 A4.out).mono ?_);(case side1 => repeat (first | exact HR0.out | (with_reducible refine Kd.C_alloc ?_ _) | (with_reducible refine Kd.C_drewN ?_ _) | (with_reducible refine Kd.C_drew ?_)));(case side2 => exact HC0.out);rintro e w9 ⟨rfl,hb⟩;refine ⟨_,rfl,?_⟩;have n0_ := Aside0.mk (below_step (by repeat (first | (with_reducible first | exact HB.out | apply below_alloc | apply pw_below_drewN | apply below_drew1) | exact HB.out)) hb);clear HB;have HB := n0_;clear n0_;(try clear hb);(try clear hb2);(try clear hk);(try clear hi)) | ((with_reducible refine gate_dst (N := 10) rfl ?_);refine Kd.R_lit k52 _ 52 ?hg (N := 10) ?hd (xs := ([] : List (S52))) (inner := []) (ok := fun _ => True) (okp := fun _ => True) ?hr ?hp (fun _ hk => hk) trivial (Below.refl _ _) (Nat.le_refl _) (by simp) ?_;(case hd => rfl);(case hg => rfl);(case hr => first | (go_simp;done) | (go_simp;rfl));(case hp => exact (Reps.none _ _));intro v228 w10 ho11 hb hg_ hnew_;clear hg_ hnew_;(first | rw [← Ny227.out] at ho11 | (simp only [Int.reduceToNat] at ho11;rw [← Ny227.out] at ho11));have n0_ := Aside0.mk (Kd.R_lower ho11 (below_size (by repeat (first | (with_reducible first | exact HB.out | apply below_alloc | apply pw_below_drewN | apply below_drew1) | exact HB.out))));have n1_ := Aside0.mk (below_step (by repeat (first | (with_reducible first | exact HB.out | apply below_alloc | apply pw_below_drewN | apply below_drew1) | exact HB.out)) hb);clear HB;have HO229 := n0_;have HB := n1_;clear n0_ n1_;clear hb ho11) | ((with_reducible refine gate_builtin (b := .append) (xs := #[.tmp 10,.tmp 11]) rfl ?_);at_builtin;refine Kd.R_append_rows k52 (w0 := w) w.heap.size rfl (.tmp 10) (.tmp 11) 39 52 (.agg #[(.int .i64 0),(.int .i64 0),(.int .i64 0),(.int .i64 0),(.string ⟨#[]⟩),(.string ⟨#[]⟩),(.int .i64 0)]) 72 rfl Tryd.underlying39 info52 rfl (by decide) (by omega) v228 y227 l0 _ _ _ (fun _ => True) (fun _ => False) rfl rfl ?aO ?aR (fun _ _ h => h) (fun _ h => h.elim) ?aF ?aB ?aS ?aL ?_;(case aR => repeat (first | exact (Kd.C_below HR0.out HB.out) | (with_reducible refine Kd.C_alloc ?_ _) | (with_reducible refine Kd.C_drewN ?_ _) | (with_reducible refine Kd.C_drew ?_)));(case aB => exact (by repeat (first | (with_reducible first | exact HB.out | apply below_alloc | apply pw_below_drewN | apply below_drew1) | exact HB.out)));(case aF => exact (fun _ _ => trivial));(case aO => exact (by (with_reducible repeat (first | apply Kd.R_alloc | apply Kd.R_drewN | apply Kd.R_drew));exact HO229.out));(case aS => exact (below_size (by repeat (first | (with_reducible first | exact HB.out | apply below_alloc | apply pw_below_drewN | apply below_drew1) | exact HB.out))));(case aL => have := LMc6.out;omega);intro v231 w12 ho hb hg hat;rw [← Ny230.out] at ho;have n0_ := Aside0.mk (hb);have n1_ := Aside0.mk (ho);clear HB;clear HO229;have HB := n0_;have HO232 := n1_;clear n0_ n1_;clear ho hb hg hat) | ((with_reducible refine gate_builtin (b := .append) (xs := #[.tmp 12,.tmp 19]) rfl ?_);at_builtin;refine Kd.R_append k52 (w0 := w) w.heap.size rfl (.tmp 12) (.tmp 19) 39 52 (.agg #[(.int .i64 0),(.int .i64 0),(.int .i64 0),(.int .i64 0),(.string ⟨#[]⟩),(.string ⟨#[]⟩),(.int .i64 0)]) 72 rfl Tryd.underlying39 info52 rfl (by decide) (by omega) v231 y230 (⟨a1,wrap64 ((l0.length : Int) - 1),0,a2,(⟨#[]⟩ : ByteArray),(⟨#[]⟩ : ByteArray),0⟩ : S52) [.int .i64 a1,.int .i64 (wrap64 ((l0.length : Int) - 1)),.int .i64 0,.int .i64 a2,.string (⟨#[]⟩ : ByteArray),.string (⟨#[]⟩ : ByteArray),.int .i64 0] (fun _ => True) (fun _ => False) rfl rfl ?aP (fun _ hk => hk.elim) ?aF ?aO ?aB ?aS ?aL ?_;(case aP => exact k52_mkM _ _ _ (⟨a1,wrap64 ((l0.length : Int) - 1),0,a2,(⟨#[]⟩ : ByteArray),(⟨#[]⟩ : ByteArray),0⟩ : S52));(case aB => exact (by repeat (first | (with_reducible first | exact HB.out | apply below_alloc | apply pw_below_drewN | apply below_drew1) | exact HB.out)));(case aF => exact (fun _ _ => trivial));(case aO => exact (by (with_reducible repeat (first | apply Kd.R_alloc | apply Kd.R_drewN | apply Kd.R_drew));exact HO232.out));(case aS => exact (below_size (by repeat (first | (with_reducible first | exact HB.out | apply below_alloc | apply pw_below_drewN | apply below_drew1) | exact HB.out))));(case aL => have := LMc7.out;omega);intro v234 w13 ho hb hg hat;rw [← Ny233.out] at ho;have n0_ := Aside0.mk (hb);have n1_ := Aside0.mk (ho);clear HB;clear HO232;have HB := n0_;have HO235 := n1_;clear n0_ n1_;clear ho hb hg hat;obtain ⟨Ao14,co14,eo14⟩ := Kd.R_slice HO235.out;subst eo14) | ((with_reducible refine gate_callee (f := 62) rfl ?_);refine goesL_ (some 21) rfl rfl Tryd.func62 (by kernel_rfl) rfl #[.slice Ao14 y233.length co14] rfl (by (try simp only [List.map_toArray,List.map_cons,List.map_nil]);first | done | rfl | (simp only [List.length_drop,List.length_take];rfl)) ?_;(with_reducible refine (steelyardref14_whole.calls (fun k_ => some k_ = (.slice Ao14 y233.length co14 : Value).ownBlock) (.slice Ao14 y233.length co14) y233 t236 w _ ?side1 ?side2 A8.out).mono ?_);(case side1 => repeat (first | (with_reducible first | exact HB.out | apply below_alloc | apply pw_below_drewN | apply below_drew1) | exact HB.out));(case side2 => exact Kd.R_tight rfl HO235.out);rintro e w15 ⟨v237,rfl,ho0,hb,hkp⟩;refine ⟨_,rfl,?_⟩;have n0_ := Aside0.mk (Kd.R_mono (ok' := fun k_ => True) ho0 (fun k_ hk_ => trivial));have n1_ := Aside0.mk (hb);clear HB;clear HO235;have HO238 := n0_;have HB := n1_;clear n0_ n1_;(try clear hb);(try clear hkp);(try clear ho0)))
    go_ret
    exact ⟨_,by first | rfl | (simp [errW_none,errW_some] <;> rfl) | (simp [*,errW_none,errW_some] <;> rfl),by (with_reducible repeat (first | apply Kd.R_alloc | apply Kd.R_drewN | apply Kd.R_drew));exact HO238.out,by repeat (first | (with_reducible first | exact HB.out | apply below_alloc | apply pw_below_drewN | apply below_drew1) | exact HB.out)⟩
   ·rw [if_neg c7] at H
    exact absurd H (by simp)
  ·rw [if_neg c6] at H
   exact absurd H (by simp)
 ·replace c5 := Bool.eq_false_iff.mpr c5
  subst c5
  have H1 : (some ([] : List (S52))) = some r := by rw [if_neg (show ¬ (false = true) by decide)] at H;exact H
  clear H
  have H := H1
  clear H1
  obtain rfl := Option.some.inj H
  go_enter Tryd.func32,Tryd.ntmps32
  go_wp2_with (first | ((with_reducible refine gate_callee (f := 34) rfl ?_);refine goesL_ (some 8) rfl rfl Tryd.func34 (by kernel_rfl) rfl #[.slice A0 l0.length c0] rfl (by (try simp only [List.map_toArray,List.map_cons,List.map_nil]);first | done | rfl | (simp only [List.length_drop,List.length_take];rfl)) ?_;(with_reducible refine (steelyardref14_Good.calls _ _ l0 false _ ?side1 ?side2 A4.out).mono ?_);(case side1 => repeat (first | exact HR0.out | (with_reducible refine Kd.C_alloc ?_ _) | (with_reducible refine Kd.C_drewN ?_ _) | (with_reducible refine Kd.C_drew ?_)));(case side2 => exact HC0.out);rintro e w16 ⟨rfl,hb⟩;refine ⟨_,rfl,?_⟩;have n0_ := Aside0.mk (below_step (by repeat (first | (with_reducible first | exact HB.out | apply below_alloc | apply pw_below_drewN | apply below_drew1) | exact HB.out)) hb);clear HB;have HB := n0_;clear n0_;(try clear hb);(try clear hb2);(try clear hk);(try clear hi)))
  go_ret
  exact ⟨_,by first | rfl | (simp [errW_none,errW_some] <;> rfl) | (simp [*,errW_none,errW_some] <;> rfl),by first | exact Kd.R_nil _ _ _ _ _ | exact Kd.N_nil _ _ _ _ _ | exact Kd.V_nil _ _ _ _ _ | exact Kd.Q_nil _ _ _ _ _ | exact Kd.S_nil _ _ _ _ _,by repeat (first | (with_reducible first | exact HB.out | apply below_alloc | apply pw_below_drewN | apply below_drew1) | exact HB.out)⟩
end Go.Proofs.YtcajdkncohcaeaaDoor.GTree
