import Derived.Test.YtcajdkncohcaeaaDoorYGTree0
import Derived.Test.YtcajdkncohcaeaaDoorYGTree2
import Derived.Test.YtcajdkncohcaeaaDoorYGTree3
import Derived.Test.YtcajdkncohcaeaaDoorYGTree4
import Derived.Test.YtcajdkncohcaeaaDoorYGTree5
import Derived.Test.YtcajdkncohcaeaaDoorYGTree6
namespace Go.Proofs.YtcajdkncohcaeaaDoor.GTree
theorem zYGTree7a {α : Type} (l : List α) (i : Nat) (a : α) : l.toArray.setIfInBounds i a = (l.set i a).toArray := by simp
theorem zYGTree7b {α : Type} (l : List α) (a b : α) : (a :: l).set 0 b = b :: l := rfl
theorem zYGTree7c {α : Type} (l : List α) (i : Nat) (a b : α) : (a :: l).set (i + 1) b = a :: l.set i b := rfl
open Go.RowKit Go.Proofs.YtcajdkncohcaeaaDoorW.PrintWords Go.Proofs.YtcajdkncohcaeaaDoorW.PrintLast Go.Proofs.YtcajdkncohcaeaaDoorW.PrintMore
attribute [local go_sem] max2_int min2_int max_two min_two max_three min_three max_four min_four   -- for this text's walks alone
set_option linter.unusedVariables false
set_option linter.unusedSimpArgs false
mutual
def steelyardlaw14_TreeTells.j0 : Nat → List (S52) → List (S52) → Bool → ByteArray → ByteArray → Int → Int → Option (Bool)
 | 0,_,_,_,_,_,_,_ => none
 | k + 1,x0,x1,x43,x265000,x265001,x265002,x265003 => if x43 = true then ((steelyardlaw14_wakes.f).bind fun t267 => (some t267)) else ((steelyardkeep_OwnTree.f x0).bind fun t268 => ((steelyardkeep_OwnTree.f x1).bind fun t271 => ((tree_Lit.f k x265000 x265001).bind fun bt274 => ((tree_Ref.f k x265000).bind fun bt278 => ((tree_Join.f k x265002 t268 t271).bind fun bt282 => ((tree_Neg.f k t268).bind fun bt286 => ((tree_Pow.f k t268 x265003).bind fun bt290 => ((steelyardref14_Leaf.f 1 0 0 0 x265000 x265001 0).bind fun t294 => ((steelyardref14_Leaf.f 2 0 0 0 x265000 (⟨#[]⟩ : ByteArray) 0).bind fun t297 => ((steelyardref14_Join.f k x265002 x0 x1).bind fun t300 => ((steelyardref14_Over.f x0 7 0).bind fun t303 => ((steelyardref14_Over.f x0 8 x265003).bind fun t306 => ((steelyardkeep_Tree.f k bt274.1 t294).bind fun t309 => (if t309 = true then (if (bt274.2 != (decide ((t294.length : Int) > 0))) = true then (steelyardlaw14_TreeTells.j1 k x0 x1 t268 t271 true) else ((steelyardkeep_Tree.f k bt278.1 t297).bind fun t310 => (if t310 = true then (if (bt278.2 != (decide ((t297.length : Int) > 0))) = true then (steelyardlaw14_TreeTells.j1 k x0 x1 t268 t271 true) else ((steelyardkeep_Tree.f k bt282.1 t300).bind fun t311 => (if t311 = true then (if (bt282.2 != (decide ((t300.length : Int) > 0))) = true then (steelyardlaw14_TreeTells.j1 k x0 x1 t268 t271 true) else ((steelyardkeep_Tree.f k bt286.1 t303).bind fun t312 => (if t312 = true then (if (bt286.2 != (decide ((t303.length : Int) > 0))) = true then (steelyardlaw14_TreeTells.j1 k x0 x1 t268 t271 true) else ((steelyardkeep_Tree.f k bt290.1 t306).bind fun t313 => (if t313 = true then (steelyardlaw14_TreeTells.j1 k x0 x1 t268 t271 (bt290.2 != (decide ((t306.length : Int) > 0)))) else (steelyardlaw14_TreeTells.j1 k x0 x1 t268 t271 true)))) else (steelyardlaw14_TreeTells.j1 k x0 x1 t268 t271 true)))) else (steelyardlaw14_TreeTells.j1 k x0 x1 t268 t271 true)))) else (steelyardlaw14_TreeTells.j1 k x0 x1 t268 t271 true)))) else (steelyardlaw14_TreeTells.j1 k x0 x1 t268 t271 true)))))))))))))))
def steelyardlaw14_TreeTells.j1 : Nat → List (S52) → List (S52) → List (S52) → List (S52) → Bool → Option (Bool)
 | 0,_,_,_,_,_ => none
 | k + 1,x0,x1,x7,x8,x166 => if x166 = true then (some false) else ((steelyardref14_Good.f x0).bind fun t314 => (if t314 = true then ((steelyardref14_Deeps.f k x0).bind fun t315 => (if 0 ≤ (wrap64 ((t315.length : Int) - 1)) then (if (wrap64 ((t315.length : Int) - 1)) < (t315.length : Int) then (steelyardlaw14_TreeTells.j2 k x0 x1 x7 x8 (rd t315 (wrap64 ((t315.length : Int) - 1)))) else (none)) else (none))) else (steelyardlaw14_TreeTells.j2 k x0 x1 x7 x8 0)))
def steelyardlaw14_TreeTells.j2 : Nat → List (S52) → List (S52) → List (S52) → List (S52) → Int → Option (Bool)
 | 0,_,_,_,_,_ => none
 | k + 1,x0,x1,x7,x8,x24 => (tree_Good.f k x7).bind fun t319 => ((steelyardref14_Good.f x0).bind fun t320 => (if (t319 == t320) = true then ((tree_Deep.f k x7).bind fun t321 => (if t321 = x24 then ((tree_Same.f x7 x8).bind fun t322 => ((steelyardkeep_Bare.f k x0).bind fun t323 => ((steelyardkeep_Bare.f k x1).bind fun t326 => ((steelyardkeep_Tree.f k t323 t326).bind fun t329 => (if (t322 == t329) = true then ((steelyardkeep_Tree.f k x7 x0).bind fun t330 => (if t330 = true then ((steelyardkeep_Tree.f k x8 x1).bind fun t331 => (if t331 = true then ((steelyardlaw14_wakes.f).bind fun t332 => (some t332)) else (some false))) else (some false))) else (some false)))))) else (some false))) else (some false)))
end
def steelyardlaw14_TreeTells.f (k : Nat) (l0 : List (S52)) (l1 : List (S52)) (a2_0 : ByteArray) (a2_1 : ByteArray) (a2_2 : Int) (a2_3 : Int) : Option (Bool) := (steelyardkeep_LargeTree.f k l0).bind fun t265 => (if t265 = true then (steelyardlaw14_TreeTells.j0 k l0 l1 true a2_0 a2_1 a2_2 a2_3) else ((steelyardkeep_LargeTree.f k l1).bind fun t266 => (if t266 = true then (steelyardlaw14_TreeTells.j0 k l0 l1 true a2_0 a2_1 a2_2 a2_3) else (if (a2_0.size : Int) > 600 then (steelyardlaw14_TreeTells.j0 k l0 l1 true a2_0 a2_1 a2_2 a2_3) else (steelyardlaw14_TreeTells.j0 k l0 l1 (decide ((a2_1.size : Int) > 600)) a2_0 a2_1 a2_2 a2_3)))))
theorem steelyardlaw14_TreeTells.mono_l : ∀ k,(∀ y0 y1 y2 y3 y4 y5 y6,LeO (steelyardlaw14_TreeTells.j0 k y0 y1 y2 y3 y4 y5 y6) (steelyardlaw14_TreeTells.j0 (k + 1) y0 y1 y2 y3 y4 y5 y6)) ∧ (∀ y0 y1 y2 y3 y4,LeO (steelyardlaw14_TreeTells.j1 k y0 y1 y2 y3 y4) (steelyardlaw14_TreeTells.j1 (k + 1) y0 y1 y2 y3 y4)) ∧ (∀ y0 y1 y2 y3 y4,LeO (steelyardlaw14_TreeTells.j2 k y0 y1 y2 y3 y4) (steelyardlaw14_TreeTells.j2 (k + 1) y0 y1 y2 y3 y4))
 | 0 => ⟨fun _ _ _ _ _ _ _ r h => by simp [steelyardlaw14_TreeTells.j0] at h,fun _ _ _ _ _ r h => by simp [steelyardlaw14_TreeTells.j1] at h,fun _ _ _ _ _ r h => by simp [steelyardlaw14_TreeTells.j2] at h⟩
 | k + 1 => by
  obtain ⟨ih0,ih1,ih2⟩ := steelyardlaw14_TreeTells.mono_l k
  refine ⟨?_,?_,?_⟩
  ·intro y0 y1 y2 y3 y4 y5 y6
   unfold steelyardlaw14_TreeTells.j0
   repeat' first
   |(with_reducible exact ih0 _ _ _ _ _ _ _)
   |(with_reducible exact ih1 _ _ _ _ _)
   |(with_reducible exact ih2 _ _ _ _ _)
   |(with_reducible exact steelyardkeep_Bare.mono _ _)
   |(with_reducible exact steelyardkeep_LargeTree.mono _ _)
   |(with_reducible exact steelyardkeep_Tree.mono _ _ _)
   |(with_reducible exact steelyardref14_Deeps.mono _ _)
   |(with_reducible exact steelyardref14_Join.mono _ _ _ _)
   |(with_reducible exact tree_Deep.mono _ _)
   |(with_reducible exact tree_Good.mono _ _)
   |(with_reducible exact tree_Join.mono _ _ _ _)
   |(with_reducible exact tree_Lit.mono _ _ _)
   |(with_reducible exact tree_Neg.mono _ _)
   |(with_reducible exact tree_Pow.mono _ _ _)
   |(with_reducible exact tree_Ref.mono _ _)
   |(with_reducible exact LeO.refl _)
   |(with_reducible exact LeO.none _)
   |(with_reducible refine LeO.ite ?_ ?_)
   |(with_reducible refine LeO.bind ?_ (fun _ => ?_))
   | exact ih0 _ _ _ _ _ _ _
   | exact ih1 _ _ _ _ _
   | exact ih2 _ _ _ _ _
   | exact steelyardkeep_Bare.mono _ _
   | exact steelyardkeep_LargeTree.mono _ _
   | exact steelyardkeep_Tree.mono _ _ _
   | exact steelyardref14_Deeps.mono _ _
   | exact steelyardref14_Join.mono _ _ _ _
   | exact tree_Deep.mono _ _
   | exact tree_Good.mono _ _
   | exact tree_Join.mono _ _ _ _
   | exact tree_Lit.mono _ _ _
   | exact tree_Neg.mono _ _
   | exact tree_Pow.mono _ _ _
   | exact tree_Ref.mono _ _
   | exact LeO.none _
   | refine LeO.ite ?_ ?_
   | refine LeO.bind ?_ (fun _ => ?_)
  ·intro y0 y1 y2 y3 y4
   unfold steelyardlaw14_TreeTells.j1
   repeat' first
   |(with_reducible exact ih0 _ _ _ _ _ _ _)
   |(with_reducible exact ih1 _ _ _ _ _)
   |(with_reducible exact ih2 _ _ _ _ _)
   |(with_reducible exact steelyardkeep_Bare.mono _ _)
   |(with_reducible exact steelyardkeep_LargeTree.mono _ _)
   |(with_reducible exact steelyardkeep_Tree.mono _ _ _)
   |(with_reducible exact steelyardref14_Deeps.mono _ _)
   |(with_reducible exact steelyardref14_Join.mono _ _ _ _)
   |(with_reducible exact tree_Deep.mono _ _)
   |(with_reducible exact tree_Good.mono _ _)
   |(with_reducible exact tree_Join.mono _ _ _ _)
   |(with_reducible exact tree_Lit.mono _ _ _)
   |(with_reducible exact tree_Neg.mono _ _)
   |(with_reducible exact tree_Pow.mono _ _ _)
   |(with_reducible exact tree_Ref.mono _ _)
   |(with_reducible exact LeO.refl _)
   |(with_reducible exact LeO.none _)
   |(with_reducible refine LeO.ite ?_ ?_)
   |(with_reducible refine LeO.bind ?_ (fun _ => ?_))
   | exact ih0 _ _ _ _ _ _ _
   | exact ih1 _ _ _ _ _
   | exact ih2 _ _ _ _ _
   | exact steelyardkeep_Bare.mono _ _
   | exact steelyardkeep_LargeTree.mono _ _
   | exact steelyardkeep_Tree.mono _ _ _
   | exact steelyardref14_Deeps.mono _ _
   | exact steelyardref14_Join.mono _ _ _ _
   | exact tree_Deep.mono _ _
   | exact tree_Good.mono _ _
   | exact tree_Join.mono _ _ _ _
   | exact tree_Lit.mono _ _ _
   | exact tree_Neg.mono _ _
   | exact tree_Pow.mono _ _ _
   | exact tree_Ref.mono _ _
   | exact LeO.none _
   | refine LeO.ite ?_ ?_
   | refine LeO.bind ?_ (fun _ => ?_)
  ·intro y0 y1 y2 y3 y4
   unfold steelyardlaw14_TreeTells.j2
   repeat' first
   |(with_reducible exact ih0 _ _ _ _ _ _ _)
   |(with_reducible exact ih1 _ _ _ _ _)
   |(with_reducible exact ih2 _ _ _ _ _)
   |(with_reducible exact steelyardkeep_Bare.mono _ _)
   |(with_reducible exact steelyardkeep_LargeTree.mono _ _)
   |(with_reducible exact steelyardkeep_Tree.mono _ _ _)
   |(with_reducible exact steelyardref14_Deeps.mono _ _)
   |(with_reducible exact steelyardref14_Join.mono _ _ _ _)
   |(with_reducible exact tree_Deep.mono _ _)
   |(with_reducible exact tree_Good.mono _ _)
   |(with_reducible exact tree_Join.mono _ _ _ _)
   |(with_reducible exact tree_Lit.mono _ _ _)
   |(with_reducible exact tree_Neg.mono _ _)
   |(with_reducible exact tree_Pow.mono _ _ _)
   |(with_reducible exact tree_Ref.mono _ _)
   |(with_reducible exact LeO.refl _)
   |(with_reducible exact LeO.none _)
   |(with_reducible refine LeO.ite ?_ ?_)
   |(with_reducible refine LeO.bind ?_ (fun _ => ?_))
   | exact ih0 _ _ _ _ _ _ _
   | exact ih1 _ _ _ _ _
   | exact ih2 _ _ _ _ _
   | exact steelyardkeep_Bare.mono _ _
   | exact steelyardkeep_LargeTree.mono _ _
   | exact steelyardkeep_Tree.mono _ _ _
   | exact steelyardref14_Deeps.mono _ _
   | exact steelyardref14_Join.mono _ _ _ _
   | exact tree_Deep.mono _ _
   | exact tree_Good.mono _ _
   | exact tree_Join.mono _ _ _ _
   | exact tree_Lit.mono _ _ _
   | exact tree_Neg.mono _ _
   | exact tree_Pow.mono _ _ _
   | exact tree_Ref.mono _ _
   | exact LeO.none _
   | refine LeO.ite ?_ ?_
   | refine LeO.bind ?_ (fun _ => ?_)
theorem steelyardlaw14_TreeTells.mono : ∀ a0 a1 a2 a3 a4 a5 k,LeO (steelyardlaw14_TreeTells.f k a0 a1 a2 a3 a4 a5) (steelyardlaw14_TreeTells.f (k + 1) a0 a1 a2 a3 a4 a5) := by
 intro a0 a1 a2 a3 a4 a5 k
 obtain ⟨ih0,ih1,ih2⟩ := steelyardlaw14_TreeTells.mono_l k
 unfold steelyardlaw14_TreeTells.f
 repeat' first
  |(with_reducible exact ih0 _ _ _ _ _ _ _)
  |(with_reducible exact ih1 _ _ _ _ _)
  |(with_reducible exact ih2 _ _ _ _ _)
  |(with_reducible exact steelyardkeep_Bare.mono _ _)
  |(with_reducible exact steelyardkeep_LargeTree.mono _ _)
  |(with_reducible exact steelyardkeep_Tree.mono _ _ _)
  |(with_reducible exact steelyardref14_Deeps.mono _ _)
  |(with_reducible exact steelyardref14_Join.mono _ _ _ _)
  |(with_reducible exact tree_Deep.mono _ _)
  |(with_reducible exact tree_Good.mono _ _)
  |(with_reducible exact tree_Join.mono _ _ _ _)
  |(with_reducible exact tree_Lit.mono _ _ _)
  |(with_reducible exact tree_Neg.mono _ _)
  |(with_reducible exact tree_Pow.mono _ _ _)
  |(with_reducible exact tree_Ref.mono _ _)
  |(with_reducible exact LeO.refl _)
  |(with_reducible exact LeO.none _)
  |(with_reducible refine LeO.ite ?_ ?_)
  |(with_reducible refine LeO.bind ?_ (fun _ => ?_))
  | exact ih0 _ _ _ _ _ _ _
  | exact ih1 _ _ _ _ _
  | exact ih2 _ _ _ _ _
  | exact steelyardkeep_Bare.mono _ _
  | exact steelyardkeep_LargeTree.mono _ _
  | exact steelyardkeep_Tree.mono _ _ _
  | exact steelyardref14_Deeps.mono _ _
  | exact steelyardref14_Join.mono _ _ _ _
  | exact tree_Deep.mono _ _
  | exact tree_Good.mono _ _
  | exact tree_Join.mono _ _ _ _
  | exact tree_Lit.mono _ _ _
  | exact tree_Neg.mono _ _
  | exact tree_Pow.mono _ _ _
  | exact tree_Ref.mono _ _
  | exact LeO.none _
  | refine LeO.ite ?_ ?_
  | refine LeO.bind ?_ (fun _ => ?_)
def steelyardlaw14_TreeTells.T9 : Bool × List (List Nat × List Nat) := (true,[([],[]),([0],[0]),([],[]),([2],[2]),([1,3],[1,3]),([4],[4]),([],[]),([6],[6]),([7],[7]),([8,5],[8]),([],[]),([10],[10]),([],[]),([],[]),([11,12,13,9],[11,12,13]),([],[]),([15,14],[15]),([],[]),([],[]),([18],[18]),([17,19,16],[17,19]),([5,20,0,1,2,3,4,5],[5]),([9,21,0,1,2,3,4,5,6,7,8,9,21],[9]),([14,22,0,1,2,3,4,5,6,7,8,9,10,11,12,13,14,21,22],[14]),([16,23,0,1,2,3,4,5,6,7,8,9,10,11,12,13,14,15,16,21,22,23],[16]),([20,24,0,1,2,3,4,5,6,7,8,9,10,11,12,13,14,15,16,17,18,19,20,21,22,23,24],[20])])
def steelyardlaw14_TreeTells.B9 : List Nat := [0,1,0,4,15,31,0,64,192,511,0,1024,0,0,16383,0,65535,0,0,262144,1048575,2097151,4194303,8388607,16777215,33554431]
theorem steelyardlaw14_TreeTells.tab9 : rtab .any (opsOf Tryd.f7 9) = steelyardlaw14_TreeTells.T9 := by kernel_rfl
theorem steelyardlaw14_TreeTells.bits9 : waitsOk steelyardlaw14_TreeTells.T9.2 steelyardlaw14_TreeTells.B9 = true := by kernel_rfl
set_option maxHeartbeats 8000000 in
set_option maxRecDepth 100000 in
theorem steelyardlaw14_TreeTells.calls (k : Nat) (A0 : Option Addr) (c0 : Nat) (l0 : List (S52)) (A1 : Option Addr) (c1 : Nat) (l1 : List (S52)) (a2_0 : ByteArray) (a2_1 : ByteArray) (a2_2 : Int) (a2_3 : Int) (r : Bool) (w : World) (hr0 : Kd.C k52 w A0 l0.length l0) (hc0 : l0.length ≤ c0) (hr1 : Kd.C k52 w A1 l1.length l1) (hc1 : l1.length ≤ c1) (h : steelyardlaw14_TreeTells.f k l0 l1 a2_0 a2_1 a2_2 a2_3 = some r) (hG_ : Glob w) :
 Calls Tryd.prog 7 #[.slice A0 l0.length c0,.slice A1 l1.length c1,.agg #[.string a2_0,.string a2_1,.int .i64 a2_2,.int .i64 a2_3]] w fun e w' => e = .returned (.bool r) ∧ Below w.heap.size w w' := by
 have HG_ := Aside0.mk hG_
 clear hG_
 have hu41 := Tryd.underlying41
 have hu52 := Tryd.underlying52
 have HR0 := Aside0.mk hr0
 have HC0 := Aside0.mk hc0
 clear hr0 hc0
 have HR1 := Aside0.mk hr1
 have HC1 := Aside0.mk hc1
 clear hr1 hc1
 have HB := Aside0.mk (Below.refl w.heap.size w)
 have H : ((steelyardkeep_LargeTree.f k l0).bind fun t265 => (if t265 = true then (steelyardlaw14_TreeTells.j0 k l0 l1 true a2_0 a2_1 a2_2 a2_3) else ((steelyardkeep_LargeTree.f k l1).bind fun t266 => (if t266 = true then (steelyardlaw14_TreeTells.j0 k l0 l1 true a2_0 a2_1 a2_2 a2_3) else (if (a2_0.size : Int) > 600 then (steelyardlaw14_TreeTells.j0 k l0 l1 true a2_0 a2_1 a2_2 a2_3) else (steelyardlaw14_TreeTells.j0 k l0 l1 (decide ((a2_1.size : Int) > 600)) a2_0 a2_1 a2_2 a2_3)))))) = some r := h
 clear h
 have HC4 := Aside0.mk H
 clear H
 go_enter Tryd.func7,Tryd.ntmps7
 go_upto_region 1 with (first | ((with_reducible refine gate_dst (N := 5) rfl ?_);(try (refine gate_guard (by rfl) ?_;dsimp only));refine box_event ?hg (N := 5) ?hd (cs := #[.string a2_0,.string a2_1,.int .i64 a2_2,.int .i64 a2_3]) (t := 41) ?hr ?_;(case hd => rfl);(case hg => rfl);(case hr => first | (go_simp;done) | (go_simp;rfl));intro gb264 hg w5 hbox hb;have n0_ := Aside0.mk (below_step (by repeat (first | (with_reducible first | exact HB.out | apply below_alloc | apply pw_below_drewN | apply below_drew1) | exact HB.out)) hb);have n1_ := Aside0.mk (hbox);have n2_ := Aside0.mk ((by rw [hg];exact (below_size (by repeat (first | (with_reducible first | exact HB.out | apply below_alloc | apply pw_below_drewN | apply below_drew1) | exact HB.out))) : w.heap.size ≤ gb264));have n3_ := Aside0.mk ((by rw [hg];exact (below_size (by repeat (first | (with_reducible first | exact HB.out | apply below_alloc | apply pw_below_drewN | apply below_drew1) | exact HB.out))) : w.heap.size ≤ gb264));clear HB;have HB := n0_;have BK264 := n1_;have GW264 := n2_;have GE264 := n3_;clear n0_ n1_ n2_ n3_;clear hb hbox hg))
 (try simp only [Act.put,zYGTree7a,zYGTree7b,zYGTree7c])
 go_cut [43] (fun v43 wc => ∃ (kq : Nat) (x43_3 : Bool),v43 = .bool x43_3 ∧ Aside0 (steelyardlaw14_TreeTells.j0 kq l0 l1 x43_3 a2_0 a2_1 a2_2 a2_3 = some r) ∧ Aside0 (kq ≤ k) ∧ Aside0 (wc.heap[gb264]? = some (.cells #[.string a2_0,.string a2_1,.int .i64 a2_2,.int .i64 a2_3] 41 (0,0))) ∧ Aside0 (Below w.heap.size w wc))
 case first => as_aux_lemma =>
  have H := HC4.out
  clear HC4
  replace H := Option.bind_eq_some_iff.mp H
  obtain ⟨t265,A60,H⟩ := H
  replace H : (if t265 = true then (steelyardlaw14_TreeTells.j0 k l0 l1 true a2_0 a2_1 a2_2 a2_3) else ((steelyardkeep_LargeTree.f k l1).bind fun t266 => (if t266 = true then (steelyardlaw14_TreeTells.j0 k l0 l1 true a2_0 a2_1 a2_2 a2_3) else (if (a2_0.size : Int) > 600 then (steelyardlaw14_TreeTells.j0 k l0 l1 true a2_0 a2_1 a2_2 a2_3) else (steelyardlaw14_TreeTells.j0 k l0 l1 (decide ((a2_1.size : Int) > 600)) a2_0 a2_1 a2_2 a2_3))))) = some r := H
  have A6 := Aside0.mk A60
  clear A60
  by_cases c7 : t265 = true
  ·subst c7
   have H1 : (steelyardlaw14_TreeTells.j0 k l0 l1 true a2_0 a2_1 a2_2 a2_3) = some r := by rw [if_pos rfl] at H;exact H
   clear H
   have H := H1
   clear H1
   have H' := Aside0.mk H
   clear H
   go_wp2_with (first | ((with_reducible refine gate_callee (f := 22) rfl ?_);refine goesL_ (some 27) rfl rfl Tryd.func22 (by kernel_rfl) rfl #[.slice A0 l0.length c0] rfl (by (try simp only [List.map_toArray,List.map_cons,List.map_nil]);first | done | rfl | (simp only [List.length_drop,List.length_take];rfl)) ?_;(with_reducible refine (steelyardkeep_LargeTree.calls k _ _ l0 true _ ?side1 ?side2 A6.out).mono ?_);(case side1 => repeat (first | exact (Kd.C_below HR0.out HB.out) | (with_reducible refine Kd.C_alloc ?_ _) | (with_reducible refine Kd.C_drewN ?_ _) | (with_reducible refine Kd.C_drew ?_)));(case side2 => exact HC0.out);rintro e w8 ⟨rfl,hb⟩;refine ⟨_,rfl,?_⟩;have n0_ := Aside0.mk (blk_below (g := gb264) (o := .cells #[.string a2_0,.string a2_1,.int .i64 a2_2,.int .i64 a2_3] 41 (0,0)) (by (with_reducible repeat (first | refine blk_drewN ?_ _ | refine blk_drew ?_ | refine blk_alloc ?_ _));exact BK264.out) hb);have n1_ := Aside0.mk (below_step (by repeat (first | (with_reducible first | exact HB.out | apply below_alloc | apply pw_below_drewN | apply below_drew1 | refine below_set ?_ GE264.out) | exact HB.out)) hb);clear BK264;clear HB;have BK264 := n0_;have HB := n1_;clear n0_ n1_;(try clear hb);(try clear hb2);(try clear hk);(try clear hi)))
   go_meet
   case rel => exact ⟨_,(true),(by first | rfl | (simp;done) | (simp [*];done) | (simp [*];cases t291 <;> simp;done)),H',⟨by first | omega | exact Nat.le_refl _⟩,⟨by (with_reducible repeat (first | refine blk_drewN ?_ _ | refine blk_drew ?_ | refine blk_alloc ?_ _));exact BK264.out⟩,⟨by repeat (first | (with_reducible first | exact HB.out | apply below_alloc | apply pw_below_drewN | apply below_drew1 | refine below_set ?_ GE264.out) | exact HB.out)⟩⟩
  ·replace c7 := Bool.eq_false_iff.mpr c7
   subst c7
   have H1 : ((steelyardkeep_LargeTree.f k l1).bind fun t266 => (if t266 = true then (steelyardlaw14_TreeTells.j0 k l0 l1 true a2_0 a2_1 a2_2 a2_3) else (if (a2_0.size : Int) > 600 then (steelyardlaw14_TreeTells.j0 k l0 l1 true a2_0 a2_1 a2_2 a2_3) else (steelyardlaw14_TreeTells.j0 k l0 l1 (decide ((a2_1.size : Int) > 600)) a2_0 a2_1 a2_2 a2_3)))) = some r := by rw [if_neg (show ¬ (false = true) by decide)] at H;exact H
   clear H
   have H := H1
   clear H1
   replace H := Option.bind_eq_some_iff.mp H
   obtain ⟨t266,A90,H⟩ := H
   replace H : (if t266 = true then (steelyardlaw14_TreeTells.j0 k l0 l1 true a2_0 a2_1 a2_2 a2_3) else (if (a2_0.size : Int) > 600 then (steelyardlaw14_TreeTells.j0 k l0 l1 true a2_0 a2_1 a2_2 a2_3) else (steelyardlaw14_TreeTells.j0 k l0 l1 (decide ((a2_1.size : Int) > 600)) a2_0 a2_1 a2_2 a2_3))) = some r := H
   have A9 := Aside0.mk A90
   clear A90
   by_cases c10 : t266 = true
   ·subst c10
    have H1 : (steelyardlaw14_TreeTells.j0 k l0 l1 true a2_0 a2_1 a2_2 a2_3) = some r := by rw [if_pos rfl] at H;exact H
    clear H
    have H := H1
    clear H1
    have H' := Aside0.mk H
    clear H
    go_wp2_with (first | ((with_reducible refine gate_callee (f := 22) rfl ?_);refine goesL_ (some 27) rfl rfl Tryd.func22 (by kernel_rfl) rfl #[.slice A0 l0.length c0] rfl (by (try simp only [List.map_toArray,List.map_cons,List.map_nil]);first | done | rfl | (simp only [List.length_drop,List.length_take];rfl)) ?_;(with_reducible refine (steelyardkeep_LargeTree.calls k _ _ l0 false _ ?side1 ?side2 A6.out).mono ?_);(case side1 => repeat (first | exact (Kd.C_below HR0.out HB.out) | (with_reducible refine Kd.C_alloc ?_ _) | (with_reducible refine Kd.C_drewN ?_ _) | (with_reducible refine Kd.C_drew ?_)));(case side2 => exact HC0.out);rintro e w11 ⟨rfl,hb⟩;refine ⟨_,rfl,?_⟩;have n0_ := Aside0.mk (blk_below (g := gb264) (o := .cells #[.string a2_0,.string a2_1,.int .i64 a2_2,.int .i64 a2_3] 41 (0,0)) (by (with_reducible repeat (first | refine blk_drewN ?_ _ | refine blk_drew ?_ | refine blk_alloc ?_ _));exact BK264.out) hb);have n1_ := Aside0.mk (below_step (by repeat (first | (with_reducible first | exact HB.out | apply below_alloc | apply pw_below_drewN | apply below_drew1 | refine below_set ?_ GE264.out) | exact HB.out)) hb);clear BK264;clear HB;have BK264 := n0_;have HB := n1_;clear n0_ n1_;(try clear hb);(try clear hb2);(try clear hk);(try clear hi)) | (go_at_call 22;(with_reducible refine (steelyardkeep_LargeTree.calls k _ _ l1 true _ ?side1 ?side2 A9.out).mono ?_);(case side1 => repeat (first | exact (Kd.C_below HR1.out HB.out) | (with_reducible refine Kd.C_alloc ?_ _) | (with_reducible refine Kd.C_drewN ?_ _) | (with_reducible refine Kd.C_drew ?_)));(case side2 => exact HC1.out);rintro e w12 ⟨rfl,hb⟩;have n0_ := Aside0.mk (blk_below (g := gb264) (o := .cells #[.string a2_0,.string a2_1,.int .i64 a2_2,.int .i64 a2_3] 41 (0,0)) (by (with_reducible repeat (first | refine blk_drewN ?_ _ | refine blk_drew ?_ | refine blk_alloc ?_ _));exact BK264.out) hb);have n1_ := Aside0.mk (below_step (by repeat (first | (with_reducible first | exact HB.out | apply below_alloc | apply pw_below_drewN | apply below_drew1 | refine below_set ?_ GE264.out) | exact HB.out)) hb);clear BK264;clear HB;have BK264 := n0_;have HB := n1_;clear n0_ n1_;(try clear hb);(try clear hb2);(try clear hk);(try clear hi)))
    go_meet
    case rel => exact ⟨_,(true),(by first | rfl | (simp;done) | (simp [*];done) | (simp [*];cases t291 <;> simp;done)),H',⟨by first | omega | exact Nat.le_refl _⟩,⟨by (with_reducible repeat (first | refine blk_drewN ?_ _ | refine blk_drew ?_ | refine blk_alloc ?_ _));exact BK264.out⟩,⟨by repeat (first | (with_reducible first | exact HB.out | apply below_alloc | apply pw_below_drewN | apply below_drew1 | refine below_set ?_ GE264.out) | exact HB.out)⟩⟩
   ·replace c10 := Bool.eq_false_iff.mpr c10
    subst c10
    have H1 : (if (a2_0.size : Int) > 600 then (steelyardlaw14_TreeTells.j0 k l0 l1 true a2_0 a2_1 a2_2 a2_3) else (steelyardlaw14_TreeTells.j0 k l0 l1 (decide ((a2_1.size : Int) > 600)) a2_0 a2_1 a2_2 a2_3)) = some r := by rw [if_neg (show ¬ (false = true) by decide)] at H;exact H
    clear H
    have H := H1
    clear H1
    by_cases c13 : (a2_0.size : Int) > 600
    ·rw [if_pos c13] at H
     have c13b0 : decide (600 < (a2_0.size : Int)) = true := decide_eq_true c13
     have c13b1 : decide (600 < a2_0.size) = true := decide_eq_true (by omega)
     clear c13
     (first | rw [c13b0] | (simp only [i64_w,i32_w];rw [c13b0]) | skip)
     have H' := Aside0.mk H
     clear H
     go_wp2_with (first | ((with_reducible refine gate_callee (f := 22) rfl ?_);refine goesL_ (some 27) rfl rfl Tryd.func22 (by kernel_rfl) rfl #[.slice A0 l0.length c0] rfl (by (try simp only [List.map_toArray,List.map_cons,List.map_nil]);first | done | rfl | (simp only [List.length_drop,List.length_take];rfl)) ?_;(with_reducible refine (steelyardkeep_LargeTree.calls k _ _ l0 false _ ?side1 ?side2 A6.out).mono ?_);(case side1 => repeat (first | exact (Kd.C_below HR0.out HB.out) | (with_reducible refine Kd.C_alloc ?_ _) | (with_reducible refine Kd.C_drewN ?_ _) | (with_reducible refine Kd.C_drew ?_)));(case side2 => exact HC0.out);rintro e w14 ⟨rfl,hb⟩;refine ⟨_,rfl,?_⟩;have n0_ := Aside0.mk (blk_below (g := gb264) (o := .cells #[.string a2_0,.string a2_1,.int .i64 a2_2,.int .i64 a2_3] 41 (0,0)) (by (with_reducible repeat (first | refine blk_drewN ?_ _ | refine blk_drew ?_ | refine blk_alloc ?_ _));exact BK264.out) hb);have n1_ := Aside0.mk (below_step (by repeat (first | (with_reducible first | exact HB.out | apply below_alloc | apply pw_below_drewN | apply below_drew1 | refine below_set ?_ GE264.out) | exact HB.out)) hb);clear BK264;clear HB;have BK264 := n0_;have HB := n1_;clear n0_ n1_;(try clear hb);(try clear hb2);(try clear hk);(try clear hi)) | (go_at_call 22;(with_reducible refine (steelyardkeep_LargeTree.calls k _ _ l1 false _ ?side1 ?side2 A9.out).mono ?_);(case side1 => repeat (first | exact (Kd.C_below HR1.out HB.out) | (with_reducible refine Kd.C_alloc ?_ _) | (with_reducible refine Kd.C_drewN ?_ _) | (with_reducible refine Kd.C_drew ?_)));(case side2 => exact HC1.out);rintro e w15 ⟨rfl,hb⟩;have n0_ := Aside0.mk (blk_below (g := gb264) (o := .cells #[.string a2_0,.string a2_1,.int .i64 a2_2,.int .i64 a2_3] 41 (0,0)) (by (with_reducible repeat (first | refine blk_drewN ?_ _ | refine blk_drew ?_ | refine blk_alloc ?_ _));exact BK264.out) hb);have n1_ := Aside0.mk (below_step (by repeat (first | (with_reducible first | exact HB.out | apply below_alloc | apply pw_below_drewN | apply below_drew1 | refine below_set ?_ GE264.out) | exact HB.out)) hb);clear BK264;clear HB;have BK264 := n0_;have HB := n1_;clear n0_ n1_;(try clear hb);(try clear hb2);(try clear hk);(try clear hi);have hcz16_0 : w15.cell? ⟨gb264,0,none⟩ = some (.string a2_0) := (blk_cell BK264.out 0).trans rfl;have hcz16_1 : w15.cell? ⟨gb264,1,none⟩ = some (.string a2_1) := (blk_cell BK264.out 1).trans rfl;have hcz16_2 : w15.cell? ⟨gb264,2,none⟩ = some (.int .i64 a2_2) := (blk_cell BK264.out 2).trans rfl;have hcz16_3 : w15.cell? ⟨gb264,3,none⟩ = some (.int .i64 a2_3) := (blk_cell BK264.out 3).trans rfl;have hfz16_0 := blk_frozen BK264.out 0;have hfz16_1 := blk_frozen BK264.out 1;have hfz16_2 := blk_frozen BK264.out 2;have hfz16_3 := blk_frozen BK264.out 3))
     go_meet
     case rel => exact ⟨_,(true),(by first | rfl | (simp;done) | (simp [*];done) | (simp [*];cases t291 <;> simp;done)),H',⟨by first | omega | exact Nat.le_refl _⟩,⟨by (with_reducible repeat (first | refine blk_drewN ?_ _ | refine blk_drew ?_ | refine blk_alloc ?_ _));exact BK264.out⟩,⟨by repeat (first | (with_reducible first | exact HB.out | apply below_alloc | apply pw_below_drewN | apply below_drew1 | refine below_set ?_ GE264.out) | exact HB.out)⟩⟩
    ·rw [if_neg c13] at H
     have c13b0 : decide (600 < (a2_0.size : Int)) = false := decide_eq_false c13
     have c13b1 : decide (600 < a2_0.size) = false := decide_eq_false (by omega)
     clear c13
     (first | rw [c13b0] | (simp only [i64_w,i32_w];rw [c13b0]) | skip)
     have H' := Aside0.mk H
     clear H
     go_wp2_with (first | ((with_reducible refine gate_callee (f := 22) rfl ?_);refine goesL_ (some 27) rfl rfl Tryd.func22 (by kernel_rfl) rfl #[.slice A0 l0.length c0] rfl (by (try simp only [List.map_toArray,List.map_cons,List.map_nil]);first | done | rfl | (simp only [List.length_drop,List.length_take];rfl)) ?_;(with_reducible refine (steelyardkeep_LargeTree.calls k _ _ l0 false _ ?side1 ?side2 A6.out).mono ?_);(case side1 => repeat (first | exact (Kd.C_below HR0.out HB.out) | (with_reducible refine Kd.C_alloc ?_ _) | (with_reducible refine Kd.C_drewN ?_ _) | (with_reducible refine Kd.C_drew ?_)));(case side2 => exact HC0.out);rintro e w17 ⟨rfl,hb⟩;refine ⟨_,rfl,?_⟩;have n0_ := Aside0.mk (blk_below (g := gb264) (o := .cells #[.string a2_0,.string a2_1,.int .i64 a2_2,.int .i64 a2_3] 41 (0,0)) (by (with_reducible repeat (first | refine blk_drewN ?_ _ | refine blk_drew ?_ | refine blk_alloc ?_ _));exact BK264.out) hb);have n1_ := Aside0.mk (below_step (by repeat (first | (with_reducible first | exact HB.out | apply below_alloc | apply pw_below_drewN | apply below_drew1 | refine below_set ?_ GE264.out) | exact HB.out)) hb);clear BK264;clear HB;have BK264 := n0_;have HB := n1_;clear n0_ n1_;(try clear hb);(try clear hb2);(try clear hk);(try clear hi)) | (go_at_call 22;(with_reducible refine (steelyardkeep_LargeTree.calls k _ _ l1 false _ ?side1 ?side2 A9.out).mono ?_);(case side1 => repeat (first | exact (Kd.C_below HR1.out HB.out) | (with_reducible refine Kd.C_alloc ?_ _) | (with_reducible refine Kd.C_drewN ?_ _) | (with_reducible refine Kd.C_drew ?_)));(case side2 => exact HC1.out);rintro e w18 ⟨rfl,hb⟩;have n0_ := Aside0.mk (blk_below (g := gb264) (o := .cells #[.string a2_0,.string a2_1,.int .i64 a2_2,.int .i64 a2_3] 41 (0,0)) (by (with_reducible repeat (first | refine blk_drewN ?_ _ | refine blk_drew ?_ | refine blk_alloc ?_ _));exact BK264.out) hb);have n1_ := Aside0.mk (below_step (by repeat (first | (with_reducible first | exact HB.out | apply below_alloc | apply pw_below_drewN | apply below_drew1 | refine below_set ?_ GE264.out) | exact HB.out)) hb);clear BK264;clear HB;have BK264 := n0_;have HB := n1_;clear n0_ n1_;(try clear hb);(try clear hb2);(try clear hk);(try clear hi);have hcz19_0 : w18.cell? ⟨gb264,0,none⟩ = some (.string a2_0) := (blk_cell BK264.out 0).trans rfl;have hcz19_1 : w18.cell? ⟨gb264,1,none⟩ = some (.string a2_1) := (blk_cell BK264.out 1).trans rfl;have hcz19_2 : w18.cell? ⟨gb264,2,none⟩ = some (.int .i64 a2_2) := (blk_cell BK264.out 2).trans rfl;have hcz19_3 : w18.cell? ⟨gb264,3,none⟩ = some (.int .i64 a2_3) := (blk_cell BK264.out 3).trans rfl;have hfz19_0 := blk_frozen BK264.out 0;have hfz19_1 := blk_frozen BK264.out 1;have hfz19_2 := blk_frozen BK264.out 2;have hfz19_3 := blk_frozen BK264.out 3))
     go_meet
     case rel => exact ⟨_,(decide ((a2_1.size : Int) > 600)),(by first | rfl | (simp;done) | (simp [*];done) | (simp [*];cases t291 <;> simp;done)),H',⟨by first | omega | exact Nat.le_refl _⟩,⟨by (with_reducible repeat (first | refine blk_drewN ?_ _ | refine blk_drew ?_ | refine blk_alloc ?_ _));exact BK264.out⟩,⟨by repeat (first | (with_reducible first | exact HB.out | apply below_alloc | apply pw_below_drewN | apply below_drew1 | refine below_set ?_ GE264.out) | exact HB.out)⟩⟩
 case rest =>
  clear HC4
  try clear c1
  try clear c2
  try clear p2
  try clear c7
  try clear c10
  try clear c13
  try clear c13b0
  try clear c13b1
  try clear hcz16_0
  try clear hcz16_1
  try clear hcz16_2
  try clear hcz16_3
  try clear hcz19_0
  try clear hcz19_1
  try clear hcz19_2
  try clear hcz19_3
  try clear hfz16_0
  try clear hfz16_1
  try clear hfz16_2
  try clear hfz16_3
  try clear hfz19_0
  try clear hfz19_1
  try clear hfz19_2
  try clear hfz19_3
  obtain ⟨kq,x43_3,rfl,HA,HJ3,BK264,HB⟩ := hcut
  cases kq with
  | zero => exact absurd HA.out (by simp [steelyardlaw14_TreeTells.j0])
  | succ kj3 =>
   have H := HA.out
   clear HA
   simp only [steelyardlaw14_TreeTells.j0] at H
   by_cases c20 : x43_3 = true
   ·subst c20
    have H1 : ((steelyardlaw14_wakes.f).bind fun t267 => (some t267)) = some r := by rw [if_pos rfl] at H;exact H
    clear H
    have H := H1
    clear H1
    replace H := Option.bind_eq_some_iff.mp H
    obtain ⟨t267,A210,H⟩ := H
    replace H : (some t267) = some r := H
    have A21 := Aside0.mk A210
    clear A210
    obtain rfl := Option.some.inj H
    go_wp2_with (first | ((with_reducible refine gate_callee (f := 23) rfl ?_);refine goesL_ (some 44) rfl rfl Tryd.func23 (by kernel_rfl) rfl #[] rfl (by (try simp only [List.map_toArray,List.map_cons,List.map_nil]);first | done | rfl | (simp only [List.length_drop,List.length_take];rfl)) ?_;(with_reducible refine (steelyardlaw14_wakes.calls  t267 _ A21.out ?sideG_).mono ?_);(case sideG_ => (first | (with_reducible exact HG_.out) | exact HG_.out.below (by repeat (first | (with_reducible first | exact HB.out | apply below_alloc | apply pw_below_drewN | apply below_drew1 | refine below_set ?_ GE264.out) | exact HB.out))));rintro e w22 ⟨rfl,hb⟩;refine ⟨_,rfl,?_⟩;have n0_ := Aside0.mk (blk_below (g := gb264) (o := .cells #[.string a2_0,.string a2_1,.int .i64 a2_2,.int .i64 a2_3] 41 (0,0)) (by (with_reducible repeat (first | refine blk_drewN ?_ _ | refine blk_drew ?_ | refine blk_alloc ?_ _));exact BK264.out) hb);have n1_ := Aside0.mk (below_step (by repeat (first | (with_reducible first | exact HB.out | apply below_alloc | apply pw_below_drewN | apply below_drew1 | refine below_set ?_ GE264.out) | exact HB.out)) hb);clear BK264;clear HB;have BK264 := n0_;have HB := n1_;clear n0_ n1_;(try clear hb);(try clear hb2);(try clear hk);(try clear hi)))
    go_ret
    exact ⟨by first | rfl | (simp [errW_none,errW_some] <;> rfl) | (simp [*,errW_none,errW_some] <;> rfl),by repeat (first | (with_reducible first | exact HB.out | apply below_alloc | apply pw_below_drewN | apply below_drew1 | refine below_set ?_ GE264.out) | exact HB.out)⟩
   ·replace c20 := Bool.eq_false_iff.mpr c20
    subst c20
    have H1 : ((steelyardkeep_OwnTree.f l0).bind fun t268 => ((steelyardkeep_OwnTree.f l1).bind fun t271 => ((tree_Lit.f kj3 a2_0 a2_1).bind fun bt274 => ((tree_Ref.f kj3 a2_0).bind fun bt278 => ((tree_Join.f kj3 a2_2 t268 t271).bind fun bt282 => ((tree_Neg.f kj3 t268).bind fun bt286 => ((tree_Pow.f kj3 t268 a2_3).bind fun bt290 => ((steelyardref14_Leaf.f 1 0 0 0 a2_0 a2_1 0).bind fun t294 => ((steelyardref14_Leaf.f 2 0 0 0 a2_0 (⟨#[]⟩ : ByteArray) 0).bind fun t297 => ((steelyardref14_Join.f kj3 a2_2 l0 l1).bind fun t300 => ((steelyardref14_Over.f l0 7 0).bind fun t303 => ((steelyardref14_Over.f l0 8 a2_3).bind fun t306 => ((steelyardkeep_Tree.f kj3 bt274.1 t294).bind fun t309 => (if t309 = true then (if (bt274.2 != (decide ((t294.length : Int) > 0))) = true then (steelyardlaw14_TreeTells.j1 kj3 l0 l1 t268 t271 true) else ((steelyardkeep_Tree.f kj3 bt278.1 t297).bind fun t310 => (if t310 = true then (if (bt278.2 != (decide ((t297.length : Int) > 0))) = true then (steelyardlaw14_TreeTells.j1 kj3 l0 l1 t268 t271 true) else ((steelyardkeep_Tree.f kj3 bt282.1 t300).bind fun t311 => (if t311 = true then (if (bt282.2 != (decide ((t300.length : Int) > 0))) = true then (steelyardlaw14_TreeTells.j1 kj3 l0 l1 t268 t271 true) else ((steelyardkeep_Tree.f kj3 bt286.1 t303).bind fun t312 => (if t312 = true then (if (bt286.2 != (decide ((t303.length : Int) > 0))) = true then (steelyardlaw14_TreeTells.j1 kj3 l0 l1 t268 t271 true) else ((steelyardkeep_Tree.f kj3 bt290.1 t306).bind fun t313 => (if t313 = true then (steelyardlaw14_TreeTells.j1 kj3 l0 l1 t268 t271 (bt290.2 != (decide ((t306.length : Int) > 0)))) else (steelyardlaw14_TreeTells.j1 kj3 l0 l1 t268 t271 true)))) else (steelyardlaw14_TreeTells.j1 kj3 l0 l1 t268 t271 true)))) else (steelyardlaw14_TreeTells.j1 kj3 l0 l1 t268 t271 true)))) else (steelyardlaw14_TreeTells.j1 kj3 l0 l1 t268 t271 true)))) else (steelyardlaw14_TreeTells.j1 kj3 l0 l1 t268 t271 true))))))))))))))) = some r := by rw [if_neg (show ¬ (false = true) by decide)] at H;exact H
    clear H
    have H := H1
    clear H1
    replace H := Option.bind_eq_some_iff.mp H
    obtain ⟨t268,A230,H⟩ := H
    replace H : ((steelyardkeep_OwnTree.f l1).bind fun t271 => ((tree_Lit.f kj3 a2_0 a2_1).bind fun bt274 => ((tree_Ref.f kj3 a2_0).bind fun bt278 => ((tree_Join.f kj3 a2_2 t268 t271).bind fun bt282 => ((tree_Neg.f kj3 t268).bind fun bt286 => ((tree_Pow.f kj3 t268 a2_3).bind fun bt290 => ((steelyardref14_Leaf.f 1 0 0 0 a2_0 a2_1 0).bind fun t294 => ((steelyardref14_Leaf.f 2 0 0 0 a2_0 (⟨#[]⟩ : ByteArray) 0).bind fun t297 => ((steelyardref14_Join.f kj3 a2_2 l0 l1).bind fun t300 => ((steelyardref14_Over.f l0 7 0).bind fun t303 => ((steelyardref14_Over.f l0 8 a2_3).bind fun t306 => ((steelyardkeep_Tree.f kj3 bt274.1 t294).bind fun t309 => (if t309 = true then (if (bt274.2 != (decide ((t294.length : Int) > 0))) = true then (steelyardlaw14_TreeTells.j1 kj3 l0 l1 t268 t271 true) else ((steelyardkeep_Tree.f kj3 bt278.1 t297).bind fun t310 => (if t310 = true then (if (bt278.2 != (decide ((t297.length : Int) > 0))) = true then (steelyardlaw14_TreeTells.j1 kj3 l0 l1 t268 t271 true) else ((steelyardkeep_Tree.f kj3 bt282.1 t300).bind fun t311 => (if t311 = true then (if (bt282.2 != (decide ((t300.length : Int) > 0))) = true then (steelyardlaw14_TreeTells.j1 kj3 l0 l1 t268 t271 true) else ((steelyardkeep_Tree.f kj3 bt286.1 t303).bind fun t312 => (if t312 = true then (if (bt286.2 != (decide ((t303.length : Int) > 0))) = true then (steelyardlaw14_TreeTells.j1 kj3 l0 l1 t268 t271 true) else ((steelyardkeep_Tree.f kj3 bt290.1 t306).bind fun t313 => (if t313 = true then (steelyardlaw14_TreeTells.j1 kj3 l0 l1 t268 t271 (bt290.2 != (decide ((t306.length : Int) > 0)))) else (steelyardlaw14_TreeTells.j1 kj3 l0 l1 t268 t271 true)))) else (steelyardlaw14_TreeTells.j1 kj3 l0 l1 t268 t271 true)))) else (steelyardlaw14_TreeTells.j1 kj3 l0 l1 t268 t271 true)))) else (steelyardlaw14_TreeTells.j1 kj3 l0 l1 t268 t271 true)))) else (steelyardlaw14_TreeTells.j1 kj3 l0 l1 t268 t271 true)))))))))))))) = some r := H
    have A23 := Aside0.mk A230
    clear A230
    replace H := Option.bind_eq_some_iff.mp H
    obtain ⟨t271,A240,H⟩ := H
    replace H : ((tree_Lit.f kj3 a2_0 a2_1).bind fun bt274 => ((tree_Ref.f kj3 a2_0).bind fun bt278 => ((tree_Join.f kj3 a2_2 t268 t271).bind fun bt282 => ((tree_Neg.f kj3 t268).bind fun bt286 => ((tree_Pow.f kj3 t268 a2_3).bind fun bt290 => ((steelyardref14_Leaf.f 1 0 0 0 a2_0 a2_1 0).bind fun t294 => ((steelyardref14_Leaf.f 2 0 0 0 a2_0 (⟨#[]⟩ : ByteArray) 0).bind fun t297 => ((steelyardref14_Join.f kj3 a2_2 l0 l1).bind fun t300 => ((steelyardref14_Over.f l0 7 0).bind fun t303 => ((steelyardref14_Over.f l0 8 a2_3).bind fun t306 => ((steelyardkeep_Tree.f kj3 bt274.1 t294).bind fun t309 => (if t309 = true then (if (bt274.2 != (decide ((t294.length : Int) > 0))) = true then (steelyardlaw14_TreeTells.j1 kj3 l0 l1 t268 t271 true) else ((steelyardkeep_Tree.f kj3 bt278.1 t297).bind fun t310 => (if t310 = true then (if (bt278.2 != (decide ((t297.length : Int) > 0))) = true then (steelyardlaw14_TreeTells.j1 kj3 l0 l1 t268 t271 true) else ((steelyardkeep_Tree.f kj3 bt282.1 t300).bind fun t311 => (if t311 = true then (if (bt282.2 != (decide ((t300.length : Int) > 0))) = true then (steelyardlaw14_TreeTells.j1 kj3 l0 l1 t268 t271 true) else ((steelyardkeep_Tree.f kj3 bt286.1 t303).bind fun t312 => (if t312 = true then (if (bt286.2 != (decide ((t303.length : Int) > 0))) = true then (steelyardlaw14_TreeTells.j1 kj3 l0 l1 t268 t271 true) else ((steelyardkeep_Tree.f kj3 bt290.1 t306).bind fun t313 => (if t313 = true then (steelyardlaw14_TreeTells.j1 kj3 l0 l1 t268 t271 (bt290.2 != (decide ((t306.length : Int) > 0)))) else (steelyardlaw14_TreeTells.j1 kj3 l0 l1 t268 t271 true)))) else (steelyardlaw14_TreeTells.j1 kj3 l0 l1 t268 t271 true)))) else (steelyardlaw14_TreeTells.j1 kj3 l0 l1 t268 t271 true)))) else (steelyardlaw14_TreeTells.j1 kj3 l0 l1 t268 t271 true)))) else (steelyardlaw14_TreeTells.j1 kj3 l0 l1 t268 t271 true))))))))))))) = some r := H
    have A24 := Aside0.mk A240
    clear A240
    replace H := Option.bind_eq_some_iff.mp H
    obtain ⟨⟨t274,t275⟩,A250,H⟩ := H
    replace H : ((tree_Ref.f kj3 a2_0).bind fun bt278 => ((tree_Join.f kj3 a2_2 t268 t271).bind fun bt282 => ((tree_Neg.f kj3 t268).bind fun bt286 => ((tree_Pow.f kj3 t268 a2_3).bind fun bt290 => ((steelyardref14_Leaf.f 1 0 0 0 a2_0 a2_1 0).bind fun t294 => ((steelyardref14_Leaf.f 2 0 0 0 a2_0 (⟨#[]⟩ : ByteArray) 0).bind fun t297 => ((steelyardref14_Join.f kj3 a2_2 l0 l1).bind fun t300 => ((steelyardref14_Over.f l0 7 0).bind fun t303 => ((steelyardref14_Over.f l0 8 a2_3).bind fun t306 => ((steelyardkeep_Tree.f kj3 t274 t294).bind fun t309 => (if t309 = true then (if (t275 != (decide ((t294.length : Int) > 0))) = true then (steelyardlaw14_TreeTells.j1 kj3 l0 l1 t268 t271 true) else ((steelyardkeep_Tree.f kj3 bt278.1 t297).bind fun t310 => (if t310 = true then (if (bt278.2 != (decide ((t297.length : Int) > 0))) = true then (steelyardlaw14_TreeTells.j1 kj3 l0 l1 t268 t271 true) else ((steelyardkeep_Tree.f kj3 bt282.1 t300).bind fun t311 => (if t311 = true then (if (bt282.2 != (decide ((t300.length : Int) > 0))) = true then (steelyardlaw14_TreeTells.j1 kj3 l0 l1 t268 t271 true) else ((steelyardkeep_Tree.f kj3 bt286.1 t303).bind fun t312 => (if t312 = true then (if (bt286.2 != (decide ((t303.length : Int) > 0))) = true then (steelyardlaw14_TreeTells.j1 kj3 l0 l1 t268 t271 true) else ((steelyardkeep_Tree.f kj3 bt290.1 t306).bind fun t313 => (if t313 = true then (steelyardlaw14_TreeTells.j1 kj3 l0 l1 t268 t271 (bt290.2 != (decide ((t306.length : Int) > 0)))) else (steelyardlaw14_TreeTells.j1 kj3 l0 l1 t268 t271 true)))) else (steelyardlaw14_TreeTells.j1 kj3 l0 l1 t268 t271 true)))) else (steelyardlaw14_TreeTells.j1 kj3 l0 l1 t268 t271 true)))) else (steelyardlaw14_TreeTells.j1 kj3 l0 l1 t268 t271 true)))) else (steelyardlaw14_TreeTells.j1 kj3 l0 l1 t268 t271 true)))))))))))) = some r := H
    have A25 := Aside0.mk A250
    clear A250
    replace H := Option.bind_eq_some_iff.mp H
    obtain ⟨⟨t278,t279⟩,A260,H⟩ := H
    replace H : ((tree_Join.f kj3 a2_2 t268 t271).bind fun bt282 => ((tree_Neg.f kj3 t268).bind fun bt286 => ((tree_Pow.f kj3 t268 a2_3).bind fun bt290 => ((steelyardref14_Leaf.f 1 0 0 0 a2_0 a2_1 0).bind fun t294 => ((steelyardref14_Leaf.f 2 0 0 0 a2_0 (⟨#[]⟩ : ByteArray) 0).bind fun t297 => ((steelyardref14_Join.f kj3 a2_2 l0 l1).bind fun t300 => ((steelyardref14_Over.f l0 7 0).bind fun t303 => ((steelyardref14_Over.f l0 8 a2_3).bind fun t306 => ((steelyardkeep_Tree.f kj3 t274 t294).bind fun t309 => (if t309 = true then (if (t275 != (decide ((t294.length : Int) > 0))) = true then (steelyardlaw14_TreeTells.j1 kj3 l0 l1 t268 t271 true) else ((steelyardkeep_Tree.f kj3 t278 t297).bind fun t310 => (if t310 = true then (if (t279 != (decide ((t297.length : Int) > 0))) = true then (steelyardlaw14_TreeTells.j1 kj3 l0 l1 t268 t271 true) else ((steelyardkeep_Tree.f kj3 bt282.1 t300).bind fun t311 => (if t311 = true then (if (bt282.2 != (decide ((t300.length : Int) > 0))) = true then (steelyardlaw14_TreeTells.j1 kj3 l0 l1 t268 t271 true) else ((steelyardkeep_Tree.f kj3 bt286.1 t303).bind fun t312 => (if t312 = true then (if (bt286.2 != (decide ((t303.length : Int) > 0))) = true then (steelyardlaw14_TreeTells.j1 kj3 l0 l1 t268 t271 true) else ((steelyardkeep_Tree.f kj3 bt290.1 t306).bind fun t313 => (if t313 = true then (steelyardlaw14_TreeTells.j1 kj3 l0 l1 t268 t271 (bt290.2 != (decide ((t306.length : Int) > 0)))) else (steelyardlaw14_TreeTells.j1 kj3 l0 l1 t268 t271 true)))) else (steelyardlaw14_TreeTells.j1 kj3 l0 l1 t268 t271 true)))) else (steelyardlaw14_TreeTells.j1 kj3 l0 l1 t268 t271 true)))) else (steelyardlaw14_TreeTells.j1 kj3 l0 l1 t268 t271 true)))) else (steelyardlaw14_TreeTells.j1 kj3 l0 l1 t268 t271 true))))))))))) = some r := H
    have A26 := Aside0.mk A260
    clear A260
    replace H := Option.bind_eq_some_iff.mp H
    obtain ⟨⟨t282,t283⟩,A270,H⟩ := H
    replace H : ((tree_Neg.f kj3 t268).bind fun bt286 => ((tree_Pow.f kj3 t268 a2_3).bind fun bt290 => ((steelyardref14_Leaf.f 1 0 0 0 a2_0 a2_1 0).bind fun t294 => ((steelyardref14_Leaf.f 2 0 0 0 a2_0 (⟨#[]⟩ : ByteArray) 0).bind fun t297 => ((steelyardref14_Join.f kj3 a2_2 l0 l1).bind fun t300 => ((steelyardref14_Over.f l0 7 0).bind fun t303 => ((steelyardref14_Over.f l0 8 a2_3).bind fun t306 => ((steelyardkeep_Tree.f kj3 t274 t294).bind fun t309 => (if t309 = true then (if (t275 != (decide ((t294.length : Int) > 0))) = true then (steelyardlaw14_TreeTells.j1 kj3 l0 l1 t268 t271 true) else ((steelyardkeep_Tree.f kj3 t278 t297).bind fun t310 => (if t310 = true then (if (t279 != (decide ((t297.length : Int) > 0))) = true then (steelyardlaw14_TreeTells.j1 kj3 l0 l1 t268 t271 true) else ((steelyardkeep_Tree.f kj3 t282 t300).bind fun t311 => (if t311 = true then (if (t283 != (decide ((t300.length : Int) > 0))) = true then (steelyardlaw14_TreeTells.j1 kj3 l0 l1 t268 t271 true) else ((steelyardkeep_Tree.f kj3 bt286.1 t303).bind fun t312 => (if t312 = true then (if (bt286.2 != (decide ((t303.length : Int) > 0))) = true then (steelyardlaw14_TreeTells.j1 kj3 l0 l1 t268 t271 true) else ((steelyardkeep_Tree.f kj3 bt290.1 t306).bind fun t313 => (if t313 = true then (steelyardlaw14_TreeTells.j1 kj3 l0 l1 t268 t271 (bt290.2 != (decide ((t306.length : Int) > 0)))) else (steelyardlaw14_TreeTells.j1 kj3 l0 l1 t268 t271 true)))) else (steelyardlaw14_TreeTells.j1 kj3 l0 l1 t268 t271 true)))) else (steelyardlaw14_TreeTells.j1 kj3 l0 l1 t268 t271 true)))) else (steelyardlaw14_TreeTells.j1 kj3 l0 l1 t268 t271 true)))) else (steelyardlaw14_TreeTells.j1 kj3 l0 l1 t268 t271 true)))))))))) = some r := H
    have A27 := Aside0.mk A270
    clear A270
    replace H := Option.bind_eq_some_iff.mp H
    obtain ⟨⟨t286,t287⟩,A280,H⟩ := H
    replace H : ((tree_Pow.f kj3 t268 a2_3).bind fun bt290 => ((steelyardref14_Leaf.f 1 0 0 0 a2_0 a2_1 0).bind fun t294 => ((steelyardref14_Leaf.f 2 0 0 0 a2_0 (⟨#[]⟩ : ByteArray) 0).bind fun t297 => ((steelyardref14_Join.f kj3 a2_2 l0 l1).bind fun t300 => ((steelyardref14_Over.f l0 7 0).bind fun t303 => ((steelyardref14_Over.f l0 8 a2_3).bind fun t306 => ((steelyardkeep_Tree.f kj3 t274 t294).bind fun t309 => (if t309 = true then (if (t275 != (decide ((t294.length : Int) > 0))) = true then (steelyardlaw14_TreeTells.j1 kj3 l0 l1 t268 t271 true) else ((steelyardkeep_Tree.f kj3 t278 t297).bind fun t310 => (if t310 = true then (if (t279 != (decide ((t297.length : Int) > 0))) = true then (steelyardlaw14_TreeTells.j1 kj3 l0 l1 t268 t271 true) else ((steelyardkeep_Tree.f kj3 t282 t300).bind fun t311 => (if t311 = true then (if (t283 != (decide ((t300.length : Int) > 0))) = true then (steelyardlaw14_TreeTells.j1 kj3 l0 l1 t268 t271 true) else ((steelyardkeep_Tree.f kj3 t286 t303).bind fun t312 => (if t312 = true then (if (t287 != (decide ((t303.length : Int) > 0))) = true then (steelyardlaw14_TreeTells.j1 kj3 l0 l1 t268 t271 true) else ((steelyardkeep_Tree.f kj3 bt290.1 t306).bind fun t313 => (if t313 = true then (steelyardlaw14_TreeTells.j1 kj3 l0 l1 t268 t271 (bt290.2 != (decide ((t306.length : Int) > 0)))) else (steelyardlaw14_TreeTells.j1 kj3 l0 l1 t268 t271 true)))) else (steelyardlaw14_TreeTells.j1 kj3 l0 l1 t268 t271 true)))) else (steelyardlaw14_TreeTells.j1 kj3 l0 l1 t268 t271 true)))) else (steelyardlaw14_TreeTells.j1 kj3 l0 l1 t268 t271 true)))) else (steelyardlaw14_TreeTells.j1 kj3 l0 l1 t268 t271 true))))))))) = some r := H
    have A28 := Aside0.mk A280
    clear A280
    replace H := Option.bind_eq_some_iff.mp H
    obtain ⟨⟨t290,t291⟩,A290,H⟩ := H
    replace H : ((steelyardref14_Leaf.f 1 0 0 0 a2_0 a2_1 0).bind fun t294 => ((steelyardref14_Leaf.f 2 0 0 0 a2_0 (⟨#[]⟩ : ByteArray) 0).bind fun t297 => ((steelyardref14_Join.f kj3 a2_2 l0 l1).bind fun t300 => ((steelyardref14_Over.f l0 7 0).bind fun t303 => ((steelyardref14_Over.f l0 8 a2_3).bind fun t306 => ((steelyardkeep_Tree.f kj3 t274 t294).bind fun t309 => (if t309 = true then (if (t275 != (decide ((t294.length : Int) > 0))) = true then (steelyardlaw14_TreeTells.j1 kj3 l0 l1 t268 t271 true) else ((steelyardkeep_Tree.f kj3 t278 t297).bind fun t310 => (if t310 = true then (if (t279 != (decide ((t297.length : Int) > 0))) = true then (steelyardlaw14_TreeTells.j1 kj3 l0 l1 t268 t271 true) else ((steelyardkeep_Tree.f kj3 t282 t300).bind fun t311 => (if t311 = true then (if (t283 != (decide ((t300.length : Int) > 0))) = true then (steelyardlaw14_TreeTells.j1 kj3 l0 l1 t268 t271 true) else ((steelyardkeep_Tree.f kj3 t286 t303).bind fun t312 => (if t312 = true then (if (t287 != (decide ((t303.length : Int) > 0))) = true then (steelyardlaw14_TreeTells.j1 kj3 l0 l1 t268 t271 true) else ((steelyardkeep_Tree.f kj3 t290 t306).bind fun t313 => (if t313 = true then (steelyardlaw14_TreeTells.j1 kj3 l0 l1 t268 t271 (t291 != (decide ((t306.length : Int) > 0)))) else (steelyardlaw14_TreeTells.j1 kj3 l0 l1 t268 t271 true)))) else (steelyardlaw14_TreeTells.j1 kj3 l0 l1 t268 t271 true)))) else (steelyardlaw14_TreeTells.j1 kj3 l0 l1 t268 t271 true)))) else (steelyardlaw14_TreeTells.j1 kj3 l0 l1 t268 t271 true)))) else (steelyardlaw14_TreeTells.j1 kj3 l0 l1 t268 t271 true)))))))) = some r := H
    have A29 := Aside0.mk A290
    clear A290
    replace H := Option.bind_eq_some_iff.mp H
    obtain ⟨t294,A300,H⟩ := H
    replace H : ((steelyardref14_Leaf.f 2 0 0 0 a2_0 (⟨#[]⟩ : ByteArray) 0).bind fun t297 => ((steelyardref14_Join.f kj3 a2_2 l0 l1).bind fun t300 => ((steelyardref14_Over.f l0 7 0).bind fun t303 => ((steelyardref14_Over.f l0 8 a2_3).bind fun t306 => ((steelyardkeep_Tree.f kj3 t274 t294).bind fun t309 => (if t309 = true then (if (t275 != (decide ((t294.length : Int) > 0))) = true then (steelyardlaw14_TreeTells.j1 kj3 l0 l1 t268 t271 true) else ((steelyardkeep_Tree.f kj3 t278 t297).bind fun t310 => (if t310 = true then (if (t279 != (decide ((t297.length : Int) > 0))) = true then (steelyardlaw14_TreeTells.j1 kj3 l0 l1 t268 t271 true) else ((steelyardkeep_Tree.f kj3 t282 t300).bind fun t311 => (if t311 = true then (if (t283 != (decide ((t300.length : Int) > 0))) = true then (steelyardlaw14_TreeTells.j1 kj3 l0 l1 t268 t271 true) else ((steelyardkeep_Tree.f kj3 t286 t303).bind fun t312 => (if t312 = true then (if (t287 != (decide ((t303.length : Int) > 0))) = true then (steelyardlaw14_TreeTells.j1 kj3 l0 l1 t268 t271 true) else ((steelyardkeep_Tree.f kj3 t290 t306).bind fun t313 => (if t313 = true then (steelyardlaw14_TreeTells.j1 kj3 l0 l1 t268 t271 (t291 != (decide ((t306.length : Int) > 0)))) else (steelyardlaw14_TreeTells.j1 kj3 l0 l1 t268 t271 true)))) else (steelyardlaw14_TreeTells.j1 kj3 l0 l1 t268 t271 true)))) else (steelyardlaw14_TreeTells.j1 kj3 l0 l1 t268 t271 true)))) else (steelyardlaw14_TreeTells.j1 kj3 l0 l1 t268 t271 true)))) else (steelyardlaw14_TreeTells.j1 kj3 l0 l1 t268 t271 true))))))) = some r := H
    have A30 := Aside0.mk A300
    clear A300
    replace H := Option.bind_eq_some_iff.mp H
    obtain ⟨t297,A310,H⟩ := H
    replace H : ((steelyardref14_Join.f kj3 a2_2 l0 l1).bind fun t300 => ((steelyardref14_Over.f l0 7 0).bind fun t303 => ((steelyardref14_Over.f l0 8 a2_3).bind fun t306 => ((steelyardkeep_Tree.f kj3 t274 t294).bind fun t309 => (if t309 = true then (if (t275 != (decide ((t294.length : Int) > 0))) = true then (steelyardlaw14_TreeTells.j1 kj3 l0 l1 t268 t271 true) else ((steelyardkeep_Tree.f kj3 t278 t297).bind fun t310 => (if t310 = true then (if (t279 != (decide ((t297.length : Int) > 0))) = true then (steelyardlaw14_TreeTells.j1 kj3 l0 l1 t268 t271 true) else ((steelyardkeep_Tree.f kj3 t282 t300).bind fun t311 => (if t311 = true then (if (t283 != (decide ((t300.length : Int) > 0))) = true then (steelyardlaw14_TreeTells.j1 kj3 l0 l1 t268 t271 true) else ((steelyardkeep_Tree.f kj3 t286 t303).bind fun t312 => (if t312 = true then (if (t287 != (decide ((t303.length : Int) > 0))) = true then (steelyardlaw14_TreeTells.j1 kj3 l0 l1 t268 t271 true) else ((steelyardkeep_Tree.f kj3 t290 t306).bind fun t313 => (if t313 = true then (steelyardlaw14_TreeTells.j1 kj3 l0 l1 t268 t271 (t291 != (decide ((t306.length : Int) > 0)))) else (steelyardlaw14_TreeTells.j1 kj3 l0 l1 t268 t271 true)))) else (steelyardlaw14_TreeTells.j1 kj3 l0 l1 t268 t271 true)))) else (steelyardlaw14_TreeTells.j1 kj3 l0 l1 t268 t271 true)))) else (steelyardlaw14_TreeTells.j1 kj3 l0 l1 t268 t271 true)))) else (steelyardlaw14_TreeTells.j1 kj3 l0 l1 t268 t271 true)))))) = some r := H
    have A31 := Aside0.mk A310
    clear A310
    replace H := Option.bind_eq_some_iff.mp H
    obtain ⟨t300,A320,H⟩ := H
    replace H : ((steelyardref14_Over.f l0 7 0).bind fun t303 => ((steelyardref14_Over.f l0 8 a2_3).bind fun t306 => ((steelyardkeep_Tree.f kj3 t274 t294).bind fun t309 => (if t309 = true then (if (t275 != (decide ((t294.length : Int) > 0))) = true then (steelyardlaw14_TreeTells.j1 kj3 l0 l1 t268 t271 true) else ((steelyardkeep_Tree.f kj3 t278 t297).bind fun t310 => (if t310 = true then (if (t279 != (decide ((t297.length : Int) > 0))) = true then (steelyardlaw14_TreeTells.j1 kj3 l0 l1 t268 t271 true) else ((steelyardkeep_Tree.f kj3 t282 t300).bind fun t311 => (if t311 = true then (if (t283 != (decide ((t300.length : Int) > 0))) = true then (steelyardlaw14_TreeTells.j1 kj3 l0 l1 t268 t271 true) else ((steelyardkeep_Tree.f kj3 t286 t303).bind fun t312 => (if t312 = true then (if (t287 != (decide ((t303.length : Int) > 0))) = true then (steelyardlaw14_TreeTells.j1 kj3 l0 l1 t268 t271 true) else ((steelyardkeep_Tree.f kj3 t290 t306).bind fun t313 => (if t313 = true then (steelyardlaw14_TreeTells.j1 kj3 l0 l1 t268 t271 (t291 != (decide ((t306.length : Int) > 0)))) else (steelyardlaw14_TreeTells.j1 kj3 l0 l1 t268 t271 true)))) else (steelyardlaw14_TreeTells.j1 kj3 l0 l1 t268 t271 true)))) else (steelyardlaw14_TreeTells.j1 kj3 l0 l1 t268 t271 true)))) else (steelyardlaw14_TreeTells.j1 kj3 l0 l1 t268 t271 true)))) else (steelyardlaw14_TreeTells.j1 kj3 l0 l1 t268 t271 true))))) = some r := H
    have A32 := Aside0.mk A320
    clear A320
    replace H := Option.bind_eq_some_iff.mp H
    obtain ⟨t303,A330,H⟩ := H
    replace H : ((steelyardref14_Over.f l0 8 a2_3).bind fun t306 => ((steelyardkeep_Tree.f kj3 t274 t294).bind fun t309 => (if t309 = true then (if (t275 != (decide ((t294.length : Int) > 0))) = true then (steelyardlaw14_TreeTells.j1 kj3 l0 l1 t268 t271 true) else ((steelyardkeep_Tree.f kj3 t278 t297).bind fun t310 => (if t310 = true then (if (t279 != (decide ((t297.length : Int) > 0))) = true then (steelyardlaw14_TreeTells.j1 kj3 l0 l1 t268 t271 true) else ((steelyardkeep_Tree.f kj3 t282 t300).bind fun t311 => (if t311 = true then (if (t283 != (decide ((t300.length : Int) > 0))) = true then (steelyardlaw14_TreeTells.j1 kj3 l0 l1 t268 t271 true) else ((steelyardkeep_Tree.f kj3 t286 t303).bind fun t312 => (if t312 = true then (if (t287 != (decide ((t303.length : Int) > 0))) = true then (steelyardlaw14_TreeTells.j1 kj3 l0 l1 t268 t271 true) else ((steelyardkeep_Tree.f kj3 t290 t306).bind fun t313 => (if t313 = true then (steelyardlaw14_TreeTells.j1 kj3 l0 l1 t268 t271 (t291 != (decide ((t306.length : Int) > 0)))) else (steelyardlaw14_TreeTells.j1 kj3 l0 l1 t268 t271 true)))) else (steelyardlaw14_TreeTells.j1 kj3 l0 l1 t268 t271 true)))) else (steelyardlaw14_TreeTells.j1 kj3 l0 l1 t268 t271 true)))) else (steelyardlaw14_TreeTells.j1 kj3 l0 l1 t268 t271 true)))) else (steelyardlaw14_TreeTells.j1 kj3 l0 l1 t268 t271 true)))) = some r := H
    have A33 := Aside0.mk A330
    clear A330
    replace H := Option.bind_eq_some_iff.mp H
    obtain ⟨t306,A340,H⟩ := H
    replace H : ((steelyardkeep_Tree.f kj3 t274 t294).bind fun t309 => (if t309 = true then (if (t275 != (decide ((t294.length : Int) > 0))) = true then (steelyardlaw14_TreeTells.j1 kj3 l0 l1 t268 t271 true) else ((steelyardkeep_Tree.f kj3 t278 t297).bind fun t310 => (if t310 = true then (if (t279 != (decide ((t297.length : Int) > 0))) = true then (steelyardlaw14_TreeTells.j1 kj3 l0 l1 t268 t271 true) else ((steelyardkeep_Tree.f kj3 t282 t300).bind fun t311 => (if t311 = true then (if (t283 != (decide ((t300.length : Int) > 0))) = true then (steelyardlaw14_TreeTells.j1 kj3 l0 l1 t268 t271 true) else ((steelyardkeep_Tree.f kj3 t286 t303).bind fun t312 => (if t312 = true then (if (t287 != (decide ((t303.length : Int) > 0))) = true then (steelyardlaw14_TreeTells.j1 kj3 l0 l1 t268 t271 true) else ((steelyardkeep_Tree.f kj3 t290 t306).bind fun t313 => (if t313 = true then (steelyardlaw14_TreeTells.j1 kj3 l0 l1 t268 t271 (t291 != (decide ((t306.length : Int) > 0)))) else (steelyardlaw14_TreeTells.j1 kj3 l0 l1 t268 t271 true)))) else (steelyardlaw14_TreeTells.j1 kj3 l0 l1 t268 t271 true)))) else (steelyardlaw14_TreeTells.j1 kj3 l0 l1 t268 t271 true)))) else (steelyardlaw14_TreeTells.j1 kj3 l0 l1 t268 t271 true)))) else (steelyardlaw14_TreeTells.j1 kj3 l0 l1 t268 t271 true))) = some r := H
    have A34 := Aside0.mk A340
    clear A340
    have HC35 := Aside0.mk H
    clear H
    try go_wp2_with (first | ((with_reducible refine gate_callee (f := 24) rfl ?_);refine goesL_ (some 46) rfl rfl Tryd.func24 (by kernel_rfl) rfl #[.slice A0 l0.length c0] rfl (by (try simp only [List.map_toArray,List.map_cons,List.map_nil]);first | done | rfl | (simp only [List.length_drop,List.length_take];rfl)) ?_;(with_reducible refine (steelyardkeep_OwnTree.calls _ _ l0 t268 _ ?side1 ?side2 A23.out).mono ?_);(case side1 => repeat (first | exact (Kd.C_below HR0.out HB.out) | (with_reducible refine Kd.C_alloc ?_ _) | (with_reducible refine Kd.C_drewN ?_ _) | (with_reducible refine Kd.C_drew ?_)));(case side2 => exact HC0.out);rintro e w36 ⟨v269,rfl,ho0,hb⟩;refine ⟨_,rfl,?_⟩;have n0_ := Aside0.mk (Kd.R_lower ho0 (below_size (by repeat (first | (with_reducible first | exact HB.out | apply below_alloc | apply pw_below_drewN | apply below_drew1 | refine below_set ?_ GE264.out) | exact HB.out))));have n1_ := Aside0.mk (blk_below (g := gb264) (o := .cells #[.string a2_0,.string a2_1,.int .i64 a2_2,.int .i64 a2_3] 41 (0,0)) (by (with_reducible repeat (first | refine blk_drewN ?_ _ | refine blk_drew ?_ | refine blk_alloc ?_ _));exact BK264.out) hb);have n2_ := Aside0.mk (below_step (by repeat (first | (with_reducible first | exact HB.out | apply below_alloc | apply pw_below_drewN | apply below_drew1 | refine below_set ?_ GE264.out) | exact HB.out)) hb);clear BK264;clear HB;have HO270 := n0_;have BK264 := n1_;have HB := n2_;clear n0_ n1_ n2_;(try clear hb);(try clear hb2);(try clear hk);(try clear hi);(try clear ho0)) | ((with_reducible refine gate_callee (f := 24) rfl ?_);refine goesL_ (some 48) rfl rfl Tryd.func24 (by kernel_rfl) rfl #[.slice A1 l1.length c1] rfl (by (try simp only [List.map_toArray,List.map_cons,List.map_nil]);first | done | rfl | (simp only [List.length_drop,List.length_take];rfl)) ?_;(with_reducible refine (steelyardkeep_OwnTree.calls _ _ l1 t271 _ ?side1 ?side2 A24.out).mono ?_);(case side1 => repeat (first | exact (Kd.C_below HR1.out HB.out) | (with_reducible refine Kd.C_alloc ?_ _) | (with_reducible refine Kd.C_drewN ?_ _) | (with_reducible refine Kd.C_drew ?_)));(case side2 => exact HC1.out);rintro e w37 ⟨v272,rfl,ho0,hb⟩;refine ⟨_,rfl,?_⟩;have n0_ := Aside0.mk (Kd.R_elder' (by (with_reducible repeat (first | apply Kd.R_alloc | apply Kd.R_drewN | apply Kd.R_drew));exact HO270.out) (Kd.R_base ho0) hb);have n1_ := Aside0.mk (Kd.R_lower (Kd.R_new' ho0 (Kd.R_lt (by (with_reducible repeat (first | apply Kd.R_alloc | apply Kd.R_drewN | apply Kd.R_drew));exact HO270.out))) (below_size (by repeat (first | (with_reducible first | exact HB.out | apply below_alloc | apply pw_below_drewN | apply below_drew1 | refine below_set ?_ GE264.out) | exact HB.out))));have n2_ := Aside0.mk (blk_below (g := gb264) (o := .cells #[.string a2_0,.string a2_1,.int .i64 a2_2,.int .i64 a2_3] 41 (0,0)) (by (with_reducible repeat (first | refine blk_drewN ?_ _ | refine blk_drew ?_ | refine blk_alloc ?_ _));exact BK264.out) hb);have n3_ := Aside0.mk (below_step (by repeat (first | (with_reducible first | exact HB.out | apply below_alloc | apply pw_below_drewN | apply below_drew1 | refine below_set ?_ GE264.out) | exact HB.out)) hb);clear HO270;clear BK264;clear HB;have HO270 := n0_;have HO273 := n1_;have BK264 := n2_;have HB := n3_;clear n0_ n1_ n2_ n3_;(try clear hb);(try clear hb2);(try clear hk);(try clear hi);(try clear ho0);have hcz38_0 : w37.cell? ⟨gb264,0,none⟩ = some (.string a2_0) := (blk_cell BK264.out 0).trans rfl;have hcz38_1 : w37.cell? ⟨gb264,1,none⟩ = some (.string a2_1) := (blk_cell BK264.out 1).trans rfl;have hcz38_2 : w37.cell? ⟨gb264,2,none⟩ = some (.int .i64 a2_2) := (blk_cell BK264.out 2).trans rfl;have hcz38_3 : w37.cell? ⟨gb264,3,none⟩ = some (.int .i64 a2_3) := (blk_cell BK264.out 3).trans rfl;have hfz38_0 := blk_frozen BK264.out 0;have hfz38_1 := blk_frozen BK264.out 1;have hfz38_2 := blk_frozen BK264.out 2;have hfz38_3 := blk_frozen BK264.out 3) | ((with_reducible refine gate_callee (f := 25) rfl ?_);refine goesL_ (some 54) rfl rfl Tryd.func25 (by kernel_rfl) rfl #[.string a2_0,.string a2_1] rfl (by (try simp only [List.map_toArray,List.map_cons,List.map_nil]);first | done | rfl | (simp only [List.length_drop,List.length_take];rfl)) ?_;(with_reducible refine (tree_Lit.calls kj3 a2_0 a2_1 t274 t275 _ A25.out ?sideG_).mono ?_);(case sideG_ => (first | (with_reducible exact HG_.out) | exact HG_.out.below (by repeat (first | (with_reducible first | exact HB.out | apply below_alloc | apply pw_below_drewN | apply below_drew1 | refine below_set ?_ GE264.out) | exact HB.out))));rintro e w39 ⟨v276,rfl,ho0,hb⟩;refine ⟨_,rfl,?_⟩;have n0_ := Aside0.mk (Kd.R_elder' (by (with_reducible repeat (first | apply Kd.R_alloc | apply Kd.R_drewN | apply Kd.R_drew));exact HO270.out) (Kd.R_base ho0) hb);have n1_ := Aside0.mk (Kd.R_elder' (by (with_reducible repeat (first | apply Kd.R_alloc | apply Kd.R_drewN | apply Kd.R_drew));exact HO273.out) (Kd.R_base ho0) hb);have n2_ := Aside0.mk (Kd.R_lower (Kd.R_new' (Kd.R_new' ho0 (Kd.R_lt (by (with_reducible repeat (first | apply Kd.R_alloc | apply Kd.R_drewN | apply Kd.R_drew));exact HO270.out))) (Kd.R_lt (by (with_reducible repeat (first | apply Kd.R_alloc | apply Kd.R_drewN | apply Kd.R_drew));exact HO273.out))) (below_size (by repeat (first | (with_reducible first | exact HB.out | apply below_alloc | apply pw_below_drewN | apply below_drew1 | refine below_set ?_ GE264.out) | exact HB.out))));have n3_ := Aside0.mk (blk_below (g := gb264) (o := .cells #[.string a2_0,.string a2_1,.int .i64 a2_2,.int .i64 a2_3] 41 (0,0)) (by (with_reducible repeat (first | refine blk_drewN ?_ _ | refine blk_drew ?_ | refine blk_alloc ?_ _));exact BK264.out) hb);have n4_ := Aside0.mk (below_step (by repeat (first | (with_reducible first | exact HB.out | apply below_alloc | apply pw_below_drewN | apply below_drew1 | refine below_set ?_ GE264.out) | exact HB.out)) hb);clear HO270;clear HO273;clear BK264;clear HB;have HO270 := n0_;have HO273 := n1_;have HO277 := n2_;have BK264 := n3_;have HB := n4_;clear n0_ n1_ n2_ n3_ n4_;(try clear hb);(try clear hb2);(try clear hk);(try clear hi);(try clear ho0);have hcz40_0 : w39.cell? ⟨gb264,0,none⟩ = some (.string a2_0) := (blk_cell BK264.out 0).trans rfl;have hcz40_1 : w39.cell? ⟨gb264,1,none⟩ = some (.string a2_1) := (blk_cell BK264.out 1).trans rfl;have hcz40_2 : w39.cell? ⟨gb264,2,none⟩ = some (.int .i64 a2_2) := (blk_cell BK264.out 2).trans rfl;have hcz40_3 : w39.cell? ⟨gb264,3,none⟩ = some (.int .i64 a2_3) := (blk_cell BK264.out 3).trans rfl;have hfz40_0 := blk_frozen BK264.out 0;have hfz40_1 := blk_frozen BK264.out 1;have hfz40_2 := blk_frozen BK264.out 2;have hfz40_3 := blk_frozen BK264.out 3) | ((with_reducible refine gate_callee (f := 26) rfl ?_);refine goesL_ (some 60) rfl rfl Tryd.func26 (by kernel_rfl) rfl #[.string a2_0] rfl (by (try simp only [List.map_toArray,List.map_cons,List.map_nil]);first | done | rfl | (simp only [List.length_drop,List.length_take];rfl)) ?_;(with_reducible refine (tree_Ref.calls kj3 a2_0 t278 t279 _ A26.out ?sideG_).mono ?_);(case sideG_ => (first | (with_reducible exact HG_.out) | exact HG_.out.below (by repeat (first | (with_reducible first | exact HB.out | apply below_alloc | apply pw_below_drewN | apply below_drew1 | refine below_set ?_ GE264.out) | exact HB.out))));rintro e w41 ⟨v280,rfl,ho0,hb⟩;refine ⟨_,rfl,?_⟩;have n0_ := Aside0.mk (Kd.R_elder' (by (with_reducible repeat (first | apply Kd.R_alloc | apply Kd.R_drewN | apply Kd.R_drew));exact HO270.out) (Kd.R_base ho0) hb);have n1_ := Aside0.mk (Kd.R_elder' (by (with_reducible repeat (first | apply Kd.R_alloc | apply Kd.R_drewN | apply Kd.R_drew));exact HO273.out) (Kd.R_base ho0) hb);have n2_ := Aside0.mk (Kd.R_elder' (by (with_reducible repeat (first | apply Kd.R_alloc | apply Kd.R_drewN | apply Kd.R_drew));exact HO277.out) (Kd.R_base ho0) hb);have n3_ := Aside0.mk (Kd.R_lower (Kd.R_new' (Kd.R_new' (Kd.R_new' ho0 (Kd.R_lt (by (with_reducible repeat (first | apply Kd.R_alloc | apply Kd.R_drewN | apply Kd.R_drew));exact HO270.out))) (Kd.R_lt (by (with_reducible repeat (first | apply Kd.R_alloc | apply Kd.R_drewN | apply Kd.R_drew));exact HO273.out))) (Kd.R_lt (by (with_reducible repeat (first | apply Kd.R_alloc | apply Kd.R_drewN | apply Kd.R_drew));exact HO277.out))) (below_size (by repeat (first | (with_reducible first | exact HB.out | apply below_alloc | apply pw_below_drewN | apply below_drew1 | refine below_set ?_ GE264.out) | exact HB.out))));have n4_ := Aside0.mk (blk_below (g := gb264) (o := .cells #[.string a2_0,.string a2_1,.int .i64 a2_2,.int .i64 a2_3] 41 (0,0)) (by (with_reducible repeat (first | refine blk_drewN ?_ _ | refine blk_drew ?_ | refine blk_alloc ?_ _));exact BK264.out) hb);have n5_ := Aside0.mk (below_step (by repeat (first | (with_reducible first | exact HB.out | apply below_alloc | apply pw_below_drewN | apply below_drew1 | refine below_set ?_ GE264.out) | exact HB.out)) hb);clear HO270;clear HO273;clear HO277;clear BK264;clear HB;have HO270 := n0_;have HO273 := n1_;have HO277 := n2_;have HO281 := n3_;have BK264 := n4_;have HB := n5_;clear n0_ n1_ n2_ n3_ n4_ n5_;(try clear hb);(try clear hb2);(try clear hk);(try clear hi);(try clear ho0);have hcz42_0 : w41.cell? ⟨gb264,0,none⟩ = some (.string a2_0) := (blk_cell BK264.out 0).trans rfl;have hcz42_1 : w41.cell? ⟨gb264,1,none⟩ = some (.string a2_1) := (blk_cell BK264.out 1).trans rfl;have hcz42_2 : w41.cell? ⟨gb264,2,none⟩ = some (.int .i64 a2_2) := (blk_cell BK264.out 2).trans rfl;have hcz42_3 : w41.cell? ⟨gb264,3,none⟩ = some (.int .i64 a2_3) := (blk_cell BK264.out 3).trans rfl;have hfz42_0 := blk_frozen BK264.out 0;have hfz42_1 := blk_frozen BK264.out 1;have hfz42_2 := blk_frozen BK264.out 2;have hfz42_3 := blk_frozen BK264.out 3;obtain ⟨Ao43,co43,eo43⟩ := Kd.R_slice HO270.out;subst eo43;obtain ⟨Ao44,co44,eo44⟩ := Kd.R_slice HO273.out;subst eo44) | ((with_reducible refine gate_callee (f := 27) rfl ?_);refine goesL_ (some 68) rfl rfl Tryd.func27 (by kernel_rfl) rfl #[.int .i64 a2_2,.slice Ao43 t268.length co43,.slice Ao44 t271.length co44] rfl (by (try simp only [List.map_toArray,List.map_cons,List.map_nil]);first | done | rfl | (simp only [List.length_drop,List.length_take];rfl)) ?_;(with_reducible refine (tree_Join.calls kj3 a2_2 _ _ t268 _ _ t271 t282 t283 _ ?side1 ?side2 ?side3 ?side4 A27.out ?sideG_).mono ?_);(case sideG_ => (first | (with_reducible exact HG_.out) | exact HG_.out.below (by repeat (first | (with_reducible first | exact HB.out | apply below_alloc | apply pw_below_drewN | apply below_drew1 | refine below_set ?_ GE264.out) | exact HB.out))));(case side1 => repeat (first | exact (Kd.R_reads' HO270.out).2.2 | (with_reducible refine Kd.C_alloc ?_ _) | (with_reducible refine Kd.C_drewN ?_ _) | (with_reducible refine Kd.C_drew ?_)));(case side2 => exact (Kd.R_reads' HO270.out).2.1);(case side3 => repeat (first | exact (Kd.R_reads' HO273.out).2.2 | (with_reducible refine Kd.C_alloc ?_ _) | (with_reducible refine Kd.C_drewN ?_ _) | (with_reducible refine Kd.C_drew ?_)));(case side4 => exact (Kd.R_reads' HO273.out).2.1);rintro e w45 ⟨v284,rfl,ho0,hb⟩;refine ⟨_,rfl,?_⟩;have n0_ := Aside0.mk (Kd.R_elder' (by (with_reducible repeat (first | apply Kd.R_alloc | apply Kd.R_drewN | apply Kd.R_drew));exact HO270.out) (Kd.R_base ho0) hb);have n1_ := Aside0.mk (Kd.R_elder' (by (with_reducible repeat (first | apply Kd.R_alloc | apply Kd.R_drewN | apply Kd.R_drew));exact HO273.out) (Kd.R_base ho0) hb);have n2_ := Aside0.mk (Kd.R_elder' (by (with_reducible repeat (first | apply Kd.R_alloc | apply Kd.R_drewN | apply Kd.R_drew));exact HO277.out) (Kd.R_base ho0) hb);have n3_ := Aside0.mk (Kd.R_elder' (by (with_reducible repeat (first | apply Kd.R_alloc | apply Kd.R_drewN | apply Kd.R_drew));exact HO281.out) (Kd.R_base ho0) hb);have n4_ := Aside0.mk (Kd.R_lower (Kd.R_new' (Kd.R_new' (Kd.R_new' (Kd.R_new' ho0 (Kd.R_lt (by (with_reducible repeat (first | apply Kd.R_alloc | apply Kd.R_drewN | apply Kd.R_drew));exact HO270.out))) (Kd.R_lt (by (with_reducible repeat (first | apply Kd.R_alloc | apply Kd.R_drewN | apply Kd.R_drew));exact HO273.out))) (Kd.R_lt (by (with_reducible repeat (first | apply Kd.R_alloc | apply Kd.R_drewN | apply Kd.R_drew));exact HO277.out))) (Kd.R_lt (by (with_reducible repeat (first | apply Kd.R_alloc | apply Kd.R_drewN | apply Kd.R_drew));exact HO281.out))) (below_size (by repeat (first | (with_reducible first | exact HB.out | apply below_alloc | apply pw_below_drewN | apply below_drew1 | refine below_set ?_ GE264.out) | exact HB.out))));have n5_ := Aside0.mk (blk_below (g := gb264) (o := .cells #[.string a2_0,.string a2_1,.int .i64 a2_2,.int .i64 a2_3] 41 (0,0)) (by (with_reducible repeat (first | refine blk_drewN ?_ _ | refine blk_drew ?_ | refine blk_alloc ?_ _));exact BK264.out) hb);have n6_ := Aside0.mk (below_step (by repeat (first | (with_reducible first | exact HB.out | apply below_alloc | apply pw_below_drewN | apply below_drew1 | refine below_set ?_ GE264.out) | exact HB.out)) hb);clear HO270;clear HO273;clear HO277;clear HO281;clear BK264;clear HB;have HO270 := n0_;have HO273 := n1_;have HO277 := n2_;have HO281 := n3_;have HO285 := n4_;have BK264 := n5_;have HB := n6_;clear n0_ n1_ n2_ n3_ n4_ n5_ n6_;(try clear hb);(try clear hb2);(try clear hk);(try clear hi);(try clear ho0)) | ((with_reducible refine gate_callee (f := 28) rfl ?_);refine goesL_ (some 73) rfl rfl Tryd.func28 (by kernel_rfl) rfl #[.slice Ao43 t268.length co43] rfl (by (try simp only [List.map_toArray,List.map_cons,List.map_nil]);first | done | rfl | (simp only [List.length_drop,List.length_take];rfl)) ?_;(with_reducible refine (tree_Neg.calls kj3 _ _ t268 t286 t287 _ ?side1 ?side2 A28.out ?sideG_).mono ?_);(case sideG_ => (first | (with_reducible exact HG_.out) | exact HG_.out.below (by repeat (first | (with_reducible first | exact HB.out | apply below_alloc | apply pw_below_drewN | apply below_drew1 | refine below_set ?_ GE264.out) | exact HB.out))));(case side1 => repeat (first | exact (Kd.R_reads' HO270.out).2.2 | (with_reducible refine Kd.C_alloc ?_ _) | (with_reducible refine Kd.C_drewN ?_ _) | (with_reducible refine Kd.C_drew ?_)));(case side2 => exact (Kd.R_reads' HO270.out).2.1);rintro e w46 ⟨v288,rfl,ho0,hb⟩;refine ⟨_,rfl,?_⟩;have n0_ := Aside0.mk (Kd.R_elder' (by (with_reducible repeat (first | apply Kd.R_alloc | apply Kd.R_drewN | apply Kd.R_drew));exact HO270.out) (Kd.R_base ho0) hb);have n1_ := Aside0.mk (Kd.R_elder' (by (with_reducible repeat (first | apply Kd.R_alloc | apply Kd.R_drewN | apply Kd.R_drew));exact HO273.out) (Kd.R_base ho0) hb);have n2_ := Aside0.mk (Kd.R_elder' (by (with_reducible repeat (first | apply Kd.R_alloc | apply Kd.R_drewN | apply Kd.R_drew));exact HO277.out) (Kd.R_base ho0) hb);have n3_ := Aside0.mk (Kd.R_elder' (by (with_reducible repeat (first | apply Kd.R_alloc | apply Kd.R_drewN | apply Kd.R_drew));exact HO281.out) (Kd.R_base ho0) hb);have n4_ := Aside0.mk (Kd.R_elder' (by (with_reducible repeat (first | apply Kd.R_alloc | apply Kd.R_drewN | apply Kd.R_drew));exact HO285.out) (Kd.R_base ho0) hb);have n5_ := Aside0.mk (Kd.R_lower (Kd.R_new' (Kd.R_new' (Kd.R_new' (Kd.R_new' (Kd.R_new' ho0 (Kd.R_lt (by (with_reducible repeat (first | apply Kd.R_alloc | apply Kd.R_drewN | apply Kd.R_drew));exact HO270.out))) (Kd.R_lt (by (with_reducible repeat (first | apply Kd.R_alloc | apply Kd.R_drewN | apply Kd.R_drew));exact HO273.out))) (Kd.R_lt (by (with_reducible repeat (first | apply Kd.R_alloc | apply Kd.R_drewN | apply Kd.R_drew));exact HO277.out))) (Kd.R_lt (by (with_reducible repeat (first | apply Kd.R_alloc | apply Kd.R_drewN | apply Kd.R_drew));exact HO281.out))) (Kd.R_lt (by (with_reducible repeat (first | apply Kd.R_alloc | apply Kd.R_drewN | apply Kd.R_drew));exact HO285.out))) (below_size (by repeat (first | (with_reducible first | exact HB.out | apply below_alloc | apply pw_below_drewN | apply below_drew1 | refine below_set ?_ GE264.out) | exact HB.out))));have n6_ := Aside0.mk (blk_below (g := gb264) (o := .cells #[.string a2_0,.string a2_1,.int .i64 a2_2,.int .i64 a2_3] 41 (0,0)) (by (with_reducible repeat (first | refine blk_drewN ?_ _ | refine blk_drew ?_ | refine blk_alloc ?_ _));exact BK264.out) hb);have n7_ := Aside0.mk (below_step (by repeat (first | (with_reducible first | exact HB.out | apply below_alloc | apply pw_below_drewN | apply below_drew1 | refine below_set ?_ GE264.out) | exact HB.out)) hb);clear HO270;clear HO273;clear HO277;clear HO281;clear HO285;clear BK264;clear HB;have HO270 := n0_;have HO273 := n1_;have HO277 := n2_;have HO281 := n3_;have HO285 := n4_;have HO289 := n5_;have BK264 := n6_;have HB := n7_;clear n0_ n1_ n2_ n3_ n4_ n5_ n6_ n7_;(try clear hb);(try clear hb2);(try clear hk);(try clear hi);(try clear ho0);have hcz47_0 : w46.cell? ⟨gb264,0,none⟩ = some (.string a2_0) := (blk_cell BK264.out 0).trans rfl;have hcz47_1 : w46.cell? ⟨gb264,1,none⟩ = some (.string a2_1) := (blk_cell BK264.out 1).trans rfl;have hcz47_2 : w46.cell? ⟨gb264,2,none⟩ = some (.int .i64 a2_2) := (blk_cell BK264.out 2).trans rfl;have hcz47_3 : w46.cell? ⟨gb264,3,none⟩ = some (.int .i64 a2_3) := (blk_cell BK264.out 3).trans rfl;have hfz47_0 := blk_frozen BK264.out 0;have hfz47_1 := blk_frozen BK264.out 1;have hfz47_2 := blk_frozen BK264.out 2;have hfz47_3 := blk_frozen BK264.out 3) | ((with_reducible refine gate_callee (f := 29) rfl ?_);refine goesL_ (some 80) rfl rfl Tryd.func29 (by kernel_rfl) rfl #[.slice Ao43 t268.length co43,.int .i64 a2_3] rfl (by (try simp only [List.map_toArray,List.map_cons,List.map_nil]);first | done | rfl | (simp only [List.length_drop,List.length_take];rfl)) ?_;(with_reducible refine (tree_Pow.calls kj3 _ _ t268 a2_3 t290 t291 _ ?side1 ?side2 A29.out ?sideG_).mono ?_);(case sideG_ => (first | (with_reducible exact HG_.out) | exact HG_.out.below (by repeat (first | (with_reducible first | exact HB.out | apply below_alloc | apply pw_below_drewN | apply below_drew1 | refine below_set ?_ GE264.out) | exact HB.out))));(case side1 => repeat (first | exact (Kd.R_reads' HO270.out).2.2 | (with_reducible refine Kd.C_alloc ?_ _) | (with_reducible refine Kd.C_drewN ?_ _) | (with_reducible refine Kd.C_drew ?_)));(case side2 => exact (Kd.R_reads' HO270.out).2.1);rintro e w48 ⟨v292,rfl,ho0,hb⟩;refine ⟨_,rfl,?_⟩;have n0_ := Aside0.mk (Kd.R_elder' (by (with_reducible repeat (first | apply Kd.R_alloc | apply Kd.R_drewN | apply Kd.R_drew));exact HO270.out) (Kd.R_base ho0) hb);have n1_ := Aside0.mk (Kd.R_elder' (by (with_reducible repeat (first | apply Kd.R_alloc | apply Kd.R_drewN | apply Kd.R_drew));exact HO273.out) (Kd.R_base ho0) hb);have n2_ := Aside0.mk (Kd.R_elder' (by (with_reducible repeat (first | apply Kd.R_alloc | apply Kd.R_drewN | apply Kd.R_drew));exact HO277.out) (Kd.R_base ho0) hb);have n3_ := Aside0.mk (Kd.R_elder' (by (with_reducible repeat (first | apply Kd.R_alloc | apply Kd.R_drewN | apply Kd.R_drew));exact HO281.out) (Kd.R_base ho0) hb);have n4_ := Aside0.mk (Kd.R_elder' (by (with_reducible repeat (first | apply Kd.R_alloc | apply Kd.R_drewN | apply Kd.R_drew));exact HO285.out) (Kd.R_base ho0) hb);have n5_ := Aside0.mk (Kd.R_elder' (by (with_reducible repeat (first | apply Kd.R_alloc | apply Kd.R_drewN | apply Kd.R_drew));exact HO289.out) (Kd.R_base ho0) hb);have n6_ := Aside0.mk (Kd.R_lower (Kd.R_new' (Kd.R_new' (Kd.R_new' (Kd.R_new' (Kd.R_new' (Kd.R_new' ho0 (Kd.R_lt (by (with_reducible repeat (first | apply Kd.R_alloc | apply Kd.R_drewN | apply Kd.R_drew));exact HO270.out))) (Kd.R_lt (by (with_reducible repeat (first | apply Kd.R_alloc | apply Kd.R_drewN | apply Kd.R_drew));exact HO273.out))) (Kd.R_lt (by (with_reducible repeat (first | apply Kd.R_alloc | apply Kd.R_drewN | apply Kd.R_drew));exact HO277.out))) (Kd.R_lt (by (with_reducible repeat (first | apply Kd.R_alloc | apply Kd.R_drewN | apply Kd.R_drew));exact HO281.out))) (Kd.R_lt (by (with_reducible repeat (first | apply Kd.R_alloc | apply Kd.R_drewN | apply Kd.R_drew));exact HO285.out))) (Kd.R_lt (by (with_reducible repeat (first | apply Kd.R_alloc | apply Kd.R_drewN | apply Kd.R_drew));exact HO289.out))) (below_size (by repeat (first | (with_reducible first | exact HB.out | apply below_alloc | apply pw_below_drewN | apply below_drew1 | refine below_set ?_ GE264.out) | exact HB.out))));have n7_ := Aside0.mk (blk_below (g := gb264) (o := .cells #[.string a2_0,.string a2_1,.int .i64 a2_2,.int .i64 a2_3] 41 (0,0)) (by (with_reducible repeat (first | refine blk_drewN ?_ _ | refine blk_drew ?_ | refine blk_alloc ?_ _));exact BK264.out) hb);have n8_ := Aside0.mk (below_step (by repeat (first | (with_reducible first | exact HB.out | apply below_alloc | apply pw_below_drewN | apply below_drew1 | refine below_set ?_ GE264.out) | exact HB.out)) hb);clear HO270;clear HO273;clear HO277;clear HO281;clear HO285;clear HO289;clear BK264;clear HB;have HO270 := n0_;have HO273 := n1_;have HO277 := n2_;have HO281 := n3_;have HO285 := n4_;have HO289 := n5_;have HO293 := n6_;have BK264 := n7_;have HB := n8_;clear n0_ n1_ n2_ n3_ n4_ n5_ n6_ n7_ n8_;(try clear hb);(try clear hb2);(try clear hk);(try clear hi);(try clear ho0)))
    have n0_ := Aside0.mk (Kd.R_drew HO270.out)
    have n1_ := Aside0.mk (Kd.R_drew HO273.out)
    have n2_ := Aside0.mk (Kd.R_drew HO277.out)
    have n3_ := Aside0.mk (Kd.R_drew HO281.out)
    have n4_ := Aside0.mk (Kd.R_drew HO285.out)
    have n5_ := Aside0.mk (Kd.R_drew HO289.out)
    have n6_ := Aside0.mk (Kd.R_drew HO293.out)
    have n7_ := Aside0.mk (blk_drew BK264.out)
    have n8_ := Aside0.mk (below_drew1 HB.out)
    clear HO270
    clear HO273
    clear HO277
    clear HO281
    clear HO285
    clear HO289
    clear HO293
    clear BK264
    clear HB
    have HO270 := n0_
    have HO273 := n1_
    have HO277 := n2_
    have HO281 := n3_
    have HO285 := n4_
    have HO289 := n5_
    have HO293 := n6_
    have BK264 := n7_
    have HB := n8_
    clear n0_ n1_ n2_ n3_ n4_ n5_ n6_ n7_ n8_
    refine start_ (n := 26) (S := fun w' => w'.cell? ⟨gb264,0,none⟩ = some (.string a2_0) ∧ w'.cell? ⟨gb264,1,none⟩ = some (.string a2_1) ∧ w'.cell? ⟨gb264,2,none⟩ = some (.int .i64 a2_2) ∧ w'.cell? ⟨gb264,3,none⟩ = some (.int .i64 a2_3)) (ds := []) #[false,false,false,false,false,false,false,false,false,false,false,false,false,false,false,false,false,false,false,false,false,false,false,false,false,false] (by kernel_rfl) rfl rfl ⟨(blk_cell BK264.out 0).trans rfl,(blk_cell BK264.out 1).trans rfl,(blk_cell BK264.out 2).trans rfl,(blk_cell BK264.out 3).trans rfl⟩ (fun hHeld => ?_);refine with_tabW steelyardlaw14_TreeTells.tab9 steelyardlaw14_TreeTells.bits9 (fun HT_ HW_ => ?_)
    generalize w48.drew = w49 at HO270 HO273 HO277 HO281 HO285 HO289 HO293 BK264 HB hHeld ⊢
    refine pure_ (i := 0) (N := some 83) (v := ?_) (a' := ?_) #[true,false,false,false,false,false,false,false,false,false,false,false,false,false,false,false,false,false,false,false,false,false,false,false,false,false] rfl rfl (any_of HT_.out (by kernel_rfl)) (fun _ _ _ h => h) (Or.inl ⟨by rfl,?_⟩) ?_ ?_
    rotate_left
    ·intro w'
     go_simp
     with_reducible rfl
    rotate_left
    ·simp only [Act.put,zYGTree7a,zYGTree7b,zYGTree7c,i64_w,i32_w]
     rfl
    refine pure_ (i := 2) (N := some 85) (v := ?_) (a' := ?_) #[true,false,true,false,false,false,false,false,false,false,false,false,false,false,false,false,false,false,false,false,false,false,false,false,false,false] rfl rfl (any_of HT_.out (by kernel_rfl)) (fun _ _ _ h => h) (Or.inl ⟨by rfl,?_⟩) ?_ ?_
    rotate_left
    ·intro w'
     go_simp
     with_reducible rfl
    rotate_left
    ·simp only [Act.put,zYGTree7a,zYGTree7b,zYGTree7c,i64_w,i32_w]
     rfl
    refine pure_ (i := 6) (N := some 89) (v := ?_) (a' := ?_) #[true,false,true,false,false,false,true,false,false,false,false,false,false,false,false,false,false,false,false,false,false,false,false,false,false,false] rfl rfl (any_of HT_.out (by kernel_rfl)) (fun _ _ _ h => h) (Or.inl ⟨by rfl,?_⟩) ?_ ?_
    rotate_left
    ·intro w'
     go_simp
     with_reducible rfl
    rotate_left
    ·simp only [Act.put,zYGTree7a,zYGTree7b,zYGTree7c,i64_w,i32_w]
     rfl
    refine pure_ (i := 10) (N := some 93) (v := ?_) (a' := ?_) #[true,false,true,false,false,false,true,false,false,false,true,false,false,false,false,false,false,false,false,false,false,false,false,false,false,false] rfl rfl (any_of HT_.out (by kernel_rfl)) (fun _ _ _ h => h) (Or.inl ⟨by rfl,?_⟩) ?_ ?_
    rotate_left
    ·intro w'
     go_simp
     with_reducible rfl
    rotate_left
    ·simp only [Act.put,zYGTree7a,zYGTree7b,zYGTree7c,i64_w,i32_w]
     rfl
    refine pure_ (i := 12) (N := some 95) (v := ?_) (a' := ?_) #[true,false,true,false,false,false,true,false,false,false,true,false,true,false,false,false,false,false,false,false,false,false,false,false,false,false] rfl rfl (any_of HT_.out (by kernel_rfl)) (fun _ _ _ h => h) (Or.inl ⟨by rfl,?_⟩) ?_ ?_
    rotate_left
    ·intro w'
     go_simp
     with_reducible rfl
    rotate_left
    ·simp only [Act.put,zYGTree7a,zYGTree7b,zYGTree7c,i64_w,i32_w]
     rfl
    refine pure_ (i := 13) (N := some 96) (v := ?_) (a' := ?_) #[true,false,true,false,false,false,true,false,false,false,true,false,true,true,false,false,false,false,false,false,false,false,false,false,false,false] rfl rfl (any_of HT_.out (by kernel_rfl)) (fun _ _ _ h => h) (Or.inl ⟨by rfl,?_⟩) ?_ ?_
    rotate_left
    ·intro w'
     go_simp
     with_reducible rfl
    rotate_left
    ·simp only [Act.put,zYGTree7a,zYGTree7b,zYGTree7c,i64_w,i32_w]
     rfl
    refine pure_ (i := 15) (N := some 98) (v := ?_) (a' := ?_) #[true,false,true,false,false,false,true,false,false,false,true,false,true,true,false,true,false,false,false,false,false,false,false,false,false,false] rfl rfl (any_of HT_.out (by kernel_rfl)) (fun _ _ _ h => h) (Or.inl ⟨by rfl,?_⟩) ?_ ?_
    rotate_left
    ·intro w'
     go_simp
     with_reducible rfl
    rotate_left
    ·simp only [Act.put,zYGTree7a,zYGTree7b,zYGTree7c,i64_w,i32_w]
     rfl
    refine pure_ (i := 17) (N := some 100) (v := ?_) (a' := ?_) #[true,false,true,false,false,false,true,false,false,false,true,false,true,true,false,true,false,true,false,false,false,false,false,false,false,false] rfl rfl (any_of HT_.out (by kernel_rfl)) (fun _ _ _ h => h) (Or.inl ⟨by rfl,?_⟩) ?_ ?_
    rotate_left
    ·intro w'
     go_simp
     with_reducible rfl
    rotate_left
    ·simp only [Act.put,zYGTree7a,zYGTree7b,zYGTree7c,i64_w,i32_w]
     rfl
    refine pure_ (i := 18) (N := some 101) (v := ?_) (a' := ?_) #[true,false,true,false,false,false,true,false,false,false,true,false,true,true,false,true,false,true,true,false,false,false,false,false,false,false] rfl rfl (any_of HT_.out (by kernel_rfl)) (fun _ _ _ h => h) (Or.inl ⟨by rfl,?_⟩) ?_ ?_
    rotate_left
    ·intro w'
     go_simp
     with_reducible rfl
    rotate_left
    ·simp only [Act.put,zYGTree7a,zYGTree7b,zYGTree7c,i64_w,i32_w]
     rfl
    refine take_ (i := 1) (N := some 84) (v := ?_) (a' := ?_) #[true,true,true,false,false,false,true,false,false,false,true,false,true,true,false,true,false,true,true,false,false,false,false,false,false,false] rfl rfl (take_ofW HT_.out HW_.out (by kernel_rfl)) (fun _ _ _ h => h) (Or.inl ⟨by rfl,?_⟩) hHeld ?_ ?_
    rotate_left
    ·rintro w' ⟨s0,s1,s2,s3⟩
     go_simp
     with_reducible rfl
    rotate_left
    ·simp only [Act.put,zYGTree7a,zYGTree7b,zYGTree7c,i64_w,i32_w]
     rfl
    refine take_ (i := 3) (N := some 86) (v := ?_) (a' := ?_) #[true,true,true,true,false,false,true,false,false,false,true,false,true,true,false,true,false,true,true,false,false,false,false,false,false,false] rfl rfl (take_ofW HT_.out HW_.out (by kernel_rfl)) (fun _ _ _ h => h) (Or.inl ⟨by rfl,?_⟩) hHeld ?_ ?_
    rotate_left
    ·rintro w' ⟨s0,s1,s2,s3⟩
     go_simp
     with_reducible rfl
    rotate_left
    ·simp only [Act.put,zYGTree7a,zYGTree7b,zYGTree7c,i64_w,i32_w]
     rfl
    refine pure_ (i := 4) (N := some 87) (v := ?_) (a' := ?_) #[true,true,true,true,true,false,true,false,false,false,true,false,true,true,false,true,false,true,true,false,false,false,false,false,false,false] rfl rfl (any_of HT_.out (by kernel_rfl)) (fun _ _ _ h => h) (Or.inl ⟨by rfl,?_⟩) ?_ ?_
    rotate_left
    ·intro w'
     go_simp
     with_reducible rfl
    rotate_left
    ·simp only [Act.put,zYGTree7a,zYGTree7b,zYGTree7c,i64_w,i32_w]
     rfl
    refine take_ (i := 7) (N := some 90) (v := ?_) (a' := ?_) #[true,true,true,true,true,false,true,true,false,false,true,false,true,true,false,true,false,true,true,false,false,false,false,false,false,false] rfl rfl (take_ofW HT_.out HW_.out (by kernel_rfl)) (fun _ _ _ h => h) (Or.inl ⟨by rfl,?_⟩) hHeld ?_ ?_
    rotate_left
    ·rintro w' ⟨s0,s1,s2,s3⟩
     go_simp
     with_reducible rfl
    rotate_left
    ·simp only [Act.put,zYGTree7a,zYGTree7b,zYGTree7c,i64_w,i32_w]
     rfl
    refine pure_ (i := 8) (N := some 91) (v := ?_) (a' := ?_) #[true,true,true,true,true,false,true,true,true,false,true,false,true,true,false,true,false,true,true,false,false,false,false,false,false,false] rfl rfl (any_of HT_.out (by kernel_rfl)) (fun _ _ _ h => h) (Or.inl ⟨by rfl,?_⟩) ?_ ?_
    rotate_left
    ·intro w'
     go_simp
     with_reducible rfl
    rotate_left
    ·simp only [Act.put,zYGTree7a,zYGTree7b,zYGTree7c,i64_w,i32_w]
     rfl
    refine take_ (i := 11) (N := some 94) (v := ?_) (a' := ?_) #[true,true,true,true,true,false,true,true,true,false,true,true,true,true,false,true,false,true,true,false,false,false,false,false,false,false] rfl rfl (take_ofW HT_.out HW_.out (by kernel_rfl)) (fun _ _ _ h => h) (Or.inl ⟨by rfl,?_⟩) hHeld ?_ ?_
    rotate_left
    ·rintro w' ⟨s0,s1,s2,s3⟩
     go_simp
     with_reducible rfl
    rotate_left
    ·simp only [Act.put,zYGTree7a,zYGTree7b,zYGTree7c,i64_w,i32_w]
     rfl
    refine take_ (i := 19) (N := some 102) (v := ?_) (a' := ?_) #[true,true,true,true,true,false,true,true,true,false,true,true,true,true,false,true,false,true,true,true,false,false,false,false,false,false] rfl rfl (take_ofW HT_.out HW_.out (by kernel_rfl)) (fun _ _ _ h => h) (Or.inl ⟨by rfl,?_⟩) hHeld ?_ ?_
    rotate_left
    ·rintro w' ⟨s0,s1,s2,s3⟩
     go_simp
     with_reducible rfl
    rotate_left
    ·simp only [Act.put,zYGTree7a,zYGTree7b,zYGTree7c,i64_w,i32_w]
     rfl
    refine one_ (i := 5) (N := some 88) #[true,true,true,true,true,true,true,true,true,false,true,true,true,true,false,true,false,true,true,true,false,false,false,false,false,false] rfl rfl (one_of HT_.out (by kernel_rfl)) (by decide) (fun K hK => ?_)
    refine goes_ Tryd.func30 (by kernel_rfl) rfl #[.agg #[.int .i64 1,.int .i64 0,.int .i64 0,.int .i64 0,.string a2_0,.string a2_1,.int .i64 0]] (by rfl) rfl rfl (by (try simp only [List.map_toArray,List.map_cons,List.map_nil]);first | done | rfl | (simp only [List.length_drop,List.length_take];rfl)) ?_
    with_reducible refine (steelyardref14_Leaf.calls 1 0 0 0 a2_0 a2_1 0 t294 _ A30.out).mono ?_
    rintro e w50 ⟨v295,rfl,ho0,hb⟩
    refine ⟨_,rfl,?_⟩
    have n0_ := Aside0.mk (Kd.R_elder' (by (with_reducible repeat (first | apply Kd.R_alloc | apply Kd.R_drewN | apply Kd.R_drew));exact HO270.out) (Kd.R_base ho0) hb)
    have n1_ := Aside0.mk (Kd.R_elder' (by (with_reducible repeat (first | apply Kd.R_alloc | apply Kd.R_drewN | apply Kd.R_drew));exact HO273.out) (Kd.R_base ho0) hb)
    have n2_ := Aside0.mk (Kd.R_elder' (by (with_reducible repeat (first | apply Kd.R_alloc | apply Kd.R_drewN | apply Kd.R_drew));exact HO277.out) (Kd.R_base ho0) hb)
    have n3_ := Aside0.mk (Kd.R_elder' (by (with_reducible repeat (first | apply Kd.R_alloc | apply Kd.R_drewN | apply Kd.R_drew));exact HO281.out) (Kd.R_base ho0) hb)
    have n4_ := Aside0.mk (Kd.R_elder' (by (with_reducible repeat (first | apply Kd.R_alloc | apply Kd.R_drewN | apply Kd.R_drew));exact HO285.out) (Kd.R_base ho0) hb)
    have n5_ := Aside0.mk (Kd.R_elder' (by (with_reducible repeat (first | apply Kd.R_alloc | apply Kd.R_drewN | apply Kd.R_drew));exact HO289.out) (Kd.R_base ho0) hb)
    have n6_ := Aside0.mk (Kd.R_elder' (by (with_reducible repeat (first | apply Kd.R_alloc | apply Kd.R_drewN | apply Kd.R_drew));exact HO293.out) (Kd.R_base ho0) hb)
    have n7_ := Aside0.mk (Kd.R_lower (Kd.R_new' (Kd.R_new' (Kd.R_new' (Kd.R_new' (Kd.R_new' (Kd.R_new' (Kd.R_new' ho0 (Kd.R_lt (by (with_reducible repeat (first | apply Kd.R_alloc | apply Kd.R_drewN | apply Kd.R_drew));exact HO270.out))) (Kd.R_lt (by (with_reducible repeat (first | apply Kd.R_alloc | apply Kd.R_drewN | apply Kd.R_drew));exact HO273.out))) (Kd.R_lt (by (with_reducible repeat (first | apply Kd.R_alloc | apply Kd.R_drewN | apply Kd.R_drew));exact HO277.out))) (Kd.R_lt (by (with_reducible repeat (first | apply Kd.R_alloc | apply Kd.R_drewN | apply Kd.R_drew));exact HO281.out))) (Kd.R_lt (by (with_reducible repeat (first | apply Kd.R_alloc | apply Kd.R_drewN | apply Kd.R_drew));exact HO285.out))) (Kd.R_lt (by (with_reducible repeat (first | apply Kd.R_alloc | apply Kd.R_drewN | apply Kd.R_drew));exact HO289.out))) (Kd.R_lt (by (with_reducible repeat (first | apply Kd.R_alloc | apply Kd.R_drewN | apply Kd.R_drew));exact HO293.out))) (below_size (by repeat (first | (with_reducible first | exact HB.out | apply below_alloc | apply pw_below_drewN | apply below_drew1 | refine below_set ?_ GE264.out) | exact HB.out))))
    have n8_ := Aside0.mk (blk_below (g := gb264) (o := .cells #[.string a2_0,.string a2_1,.int .i64 a2_2,.int .i64 a2_3] 41 (0,0)) (by (with_reducible repeat (first | refine blk_drewN ?_ _ | refine blk_drew ?_ | refine blk_alloc ?_ _));exact BK264.out) hb)
    have n9_ := Aside0.mk (below_step (by repeat (first | (with_reducible first | exact HB.out | apply below_alloc | apply pw_below_drewN | apply below_drew1 | refine below_set ?_ GE264.out) | exact HB.out)) hb)
    clear HO270
    clear HO273
    clear HO277
    clear HO281
    clear HO285
    clear HO289
    clear HO293
    clear BK264
    clear HB
    have HO270 := n0_
    have HO273 := n1_
    have HO277 := n2_
    have HO281 := n3_
    have HO285 := n4_
    have HO289 := n5_
    have HO293 := n6_
    have HO296 := n7_
    have BK264 := n8_
    have HB := n9_
    clear n0_ n1_ n2_ n3_ n4_ n5_ n6_ n7_ n8_ n9_
    (try clear hb)
    (try clear hb2)
    (try clear hk)
    (try clear hi)
    (try clear ho0)
    refine hK.out _ _ ⟨(blk_cell BK264.out 0).trans rfl,(blk_cell BK264.out 1).trans rfl,(blk_cell BK264.out 2).trans rfl,(blk_cell BK264.out 3).trans rfl⟩ (fun hHeld => ?_)
    clear hK K
    refine norm_ (a' := ?_) ?_ ?_
    rotate_left
    ·show Act.put _ (some 88) _ = _
     simp only [Act.put,zYGTree7a,zYGTree7b,zYGTree7c,i64_w,i32_w]
     rfl
    refine one_ (i := 9) (N := some 92) #[true,true,true,true,true,true,true,true,true,true,true,true,true,true,false,true,false,true,true,true,false,false,false,false,false,false] rfl rfl (one_of HT_.out (by kernel_rfl)) (by decide) (fun K hK => ?_)
    refine goes_ Tryd.func30 (by kernel_rfl) rfl #[.agg #[.int .i64 2,.int .i64 0,.int .i64 0,.int .i64 0,.string a2_0,.string (⟨#[]⟩ : ByteArray),.int .i64 0]] (by rfl) rfl rfl (by (try simp only [List.map_toArray,List.map_cons,List.map_nil]);first | done | rfl | (simp only [List.length_drop,List.length_take];rfl)) ?_
    with_reducible refine (steelyardref14_Leaf.calls 2 0 0 0 a2_0 (⟨#[]⟩ : ByteArray) 0 t297 _ A31.out).mono ?_
    rintro e w51 ⟨v298,rfl,ho0,hb⟩
    refine ⟨_,rfl,?_⟩
    have n0_ := Aside0.mk (Kd.R_elder' (by (with_reducible repeat (first | apply Kd.R_alloc | apply Kd.R_drewN | apply Kd.R_drew));exact HO270.out) (Kd.R_base ho0) hb)
    have n1_ := Aside0.mk (Kd.R_elder' (by (with_reducible repeat (first | apply Kd.R_alloc | apply Kd.R_drewN | apply Kd.R_drew));exact HO273.out) (Kd.R_base ho0) hb)
    have n2_ := Aside0.mk (Kd.R_elder' (by (with_reducible repeat (first | apply Kd.R_alloc | apply Kd.R_drewN | apply Kd.R_drew));exact HO277.out) (Kd.R_base ho0) hb)
    have n3_ := Aside0.mk (Kd.R_elder' (by (with_reducible repeat (first | apply Kd.R_alloc | apply Kd.R_drewN | apply Kd.R_drew));exact HO281.out) (Kd.R_base ho0) hb)
    have n4_ := Aside0.mk (Kd.R_elder' (by (with_reducible repeat (first | apply Kd.R_alloc | apply Kd.R_drewN | apply Kd.R_drew));exact HO285.out) (Kd.R_base ho0) hb)
    have n5_ := Aside0.mk (Kd.R_elder' (by (with_reducible repeat (first | apply Kd.R_alloc | apply Kd.R_drewN | apply Kd.R_drew));exact HO289.out) (Kd.R_base ho0) hb)
    have n6_ := Aside0.mk (Kd.R_elder' (by (with_reducible repeat (first | apply Kd.R_alloc | apply Kd.R_drewN | apply Kd.R_drew));exact HO293.out) (Kd.R_base ho0) hb)
    have n7_ := Aside0.mk (Kd.R_elder' (by (with_reducible repeat (first | apply Kd.R_alloc | apply Kd.R_drewN | apply Kd.R_drew));exact HO296.out) (Kd.R_base ho0) hb)
    have n8_ := Aside0.mk (Kd.R_lower (Kd.R_new' (Kd.R_new' (Kd.R_new' (Kd.R_new' (Kd.R_new' (Kd.R_new' (Kd.R_new' (Kd.R_new' ho0 (Kd.R_lt (by (with_reducible repeat (first | apply Kd.R_alloc | apply Kd.R_drewN | apply Kd.R_drew));exact HO270.out))) (Kd.R_lt (by (with_reducible repeat (first | apply Kd.R_alloc | apply Kd.R_drewN | apply Kd.R_drew));exact HO273.out))) (Kd.R_lt (by (with_reducible repeat (first | apply Kd.R_alloc | apply Kd.R_drewN | apply Kd.R_drew));exact HO277.out))) (Kd.R_lt (by (with_reducible repeat (first | apply Kd.R_alloc | apply Kd.R_drewN | apply Kd.R_drew));exact HO281.out))) (Kd.R_lt (by (with_reducible repeat (first | apply Kd.R_alloc | apply Kd.R_drewN | apply Kd.R_drew));exact HO285.out))) (Kd.R_lt (by (with_reducible repeat (first | apply Kd.R_alloc | apply Kd.R_drewN | apply Kd.R_drew));exact HO289.out))) (Kd.R_lt (by (with_reducible repeat (first | apply Kd.R_alloc | apply Kd.R_drewN | apply Kd.R_drew));exact HO293.out))) (Kd.R_lt (by (with_reducible repeat (first | apply Kd.R_alloc | apply Kd.R_drewN | apply Kd.R_drew));exact HO296.out))) (below_size (by repeat (first | (with_reducible first | exact HB.out | apply below_alloc | apply pw_below_drewN | apply below_drew1 | refine below_set ?_ GE264.out) | exact HB.out))))
    have n9_ := Aside0.mk (blk_below (g := gb264) (o := .cells #[.string a2_0,.string a2_1,.int .i64 a2_2,.int .i64 a2_3] 41 (0,0)) (by (with_reducible repeat (first | refine blk_drewN ?_ _ | refine blk_drew ?_ | refine blk_alloc ?_ _));exact BK264.out) hb)
    have n10_ := Aside0.mk (below_step (by repeat (first | (with_reducible first | exact HB.out | apply below_alloc | apply pw_below_drewN | apply below_drew1 | refine below_set ?_ GE264.out) | exact HB.out)) hb)
    clear HO270
    clear HO273
    clear HO277
    clear HO281
    clear HO285
    clear HO289
    clear HO293
    clear HO296
    clear BK264
    clear HB
    have HO270 := n0_
    have HO273 := n1_
    have HO277 := n2_
    have HO281 := n3_
    have HO285 := n4_
    have HO289 := n5_
    have HO293 := n6_
    have HO296 := n7_
    have HO299 := n8_
    have BK264 := n9_
    have HB := n10_
    clear n0_ n1_ n2_ n3_ n4_ n5_ n6_ n7_ n8_ n9_ n10_
    (try clear hb)
    (try clear hb2)
    (try clear hk)
    (try clear hi)
    (try clear ho0)
    refine hK.out _ _ ⟨(blk_cell BK264.out 0).trans rfl,(blk_cell BK264.out 1).trans rfl,(blk_cell BK264.out 2).trans rfl,(blk_cell BK264.out 3).trans rfl⟩ (fun hHeld => ?_)
    clear hK K
    refine norm_ (a' := ?_) ?_ ?_
    rotate_left
    ·show Act.put _ (some 92) _ = _
     simp only [Act.put,zYGTree7a,zYGTree7b,zYGTree7c,i64_w,i32_w]
     rfl
    refine one_ (i := 14) (N := some 97) #[true,true,true,true,true,true,true,true,true,true,true,true,true,true,true,true,false,true,true,true,false,false,false,false,false,false] rfl rfl (one_of HT_.out (by kernel_rfl)) (by decide) (fun K hK => ?_)
    refine goes_ Tryd.func31 (by kernel_rfl) rfl #[.int .i64 a2_2,.slice A0 l0.length c0,.slice A1 l1.length c1] (by rfl) rfl rfl (by (try simp only [List.map_toArray,List.map_cons,List.map_nil]);first | done | rfl | (simp only [List.length_drop,List.length_take];rfl)) ?_
    with_reducible refine (steelyardref14_Join.calls kj3 a2_2 _ _ l0 _ _ l1 t300 _ ?side1 ?side2 ?side3 ?side4 A32.out).mono ?_
    (case side1 => repeat (first | exact (Kd.C_below HR0.out HB.out) | (with_reducible refine Kd.C_alloc ?_ _) | (with_reducible refine Kd.C_drewN ?_ _) | (with_reducible refine Kd.C_drew ?_)))
    (case side2 => exact HC0.out)
    (case side3 => repeat (first | exact (Kd.C_below HR1.out HB.out) | (with_reducible refine Kd.C_alloc ?_ _) | (with_reducible refine Kd.C_drewN ?_ _) | (with_reducible refine Kd.C_drew ?_)))
    (case side4 => exact HC1.out)
    rintro e w52 ⟨v301,rfl,ho0,hb⟩
    refine ⟨_,rfl,?_⟩
    have n0_ := Aside0.mk (Kd.R_elder' (by (with_reducible repeat (first | apply Kd.R_alloc | apply Kd.R_drewN | apply Kd.R_drew));exact HO270.out) (Kd.R_base ho0) hb)
    have n1_ := Aside0.mk (Kd.R_elder' (by (with_reducible repeat (first | apply Kd.R_alloc | apply Kd.R_drewN | apply Kd.R_drew));exact HO273.out) (Kd.R_base ho0) hb)
    have n2_ := Aside0.mk (Kd.R_elder' (by (with_reducible repeat (first | apply Kd.R_alloc | apply Kd.R_drewN | apply Kd.R_drew));exact HO277.out) (Kd.R_base ho0) hb)
    have n3_ := Aside0.mk (Kd.R_elder' (by (with_reducible repeat (first | apply Kd.R_alloc | apply Kd.R_drewN | apply Kd.R_drew));exact HO281.out) (Kd.R_base ho0) hb)
    have n4_ := Aside0.mk (Kd.R_elder' (by (with_reducible repeat (first | apply Kd.R_alloc | apply Kd.R_drewN | apply Kd.R_drew));exact HO285.out) (Kd.R_base ho0) hb)
    have n5_ := Aside0.mk (Kd.R_elder' (by (with_reducible repeat (first | apply Kd.R_alloc | apply Kd.R_drewN | apply Kd.R_drew));exact HO289.out) (Kd.R_base ho0) hb)
    have n6_ := Aside0.mk (Kd.R_elder' (by (with_reducible repeat (first | apply Kd.R_alloc | apply Kd.R_drewN | apply Kd.R_drew));exact HO293.out) (Kd.R_base ho0) hb)
    have n7_ := Aside0.mk (Kd.R_elder' (by (with_reducible repeat (first | apply Kd.R_alloc | apply Kd.R_drewN | apply Kd.R_drew));exact HO296.out) (Kd.R_base ho0) hb)
    have n8_ := Aside0.mk (Kd.R_elder' (by (with_reducible repeat (first | apply Kd.R_alloc | apply Kd.R_drewN | apply Kd.R_drew));exact HO299.out) (Kd.R_base ho0) hb)
    have n9_ := Aside0.mk (Kd.R_lower (Kd.R_new' (Kd.R_new' (Kd.R_new' (Kd.R_new' (Kd.R_new' (Kd.R_new' (Kd.R_new' (Kd.R_new' (Kd.R_new' ho0 (Kd.R_lt (by (with_reducible repeat (first | apply Kd.R_alloc | apply Kd.R_drewN | apply Kd.R_drew));exact HO270.out))) (Kd.R_lt (by (with_reducible repeat (first | apply Kd.R_alloc | apply Kd.R_drewN | apply Kd.R_drew));exact HO273.out))) (Kd.R_lt (by (with_reducible repeat (first | apply Kd.R_alloc | apply Kd.R_drewN | apply Kd.R_drew));exact HO277.out))) (Kd.R_lt (by (with_reducible repeat (first | apply Kd.R_alloc | apply Kd.R_drewN | apply Kd.R_drew));exact HO281.out))) (Kd.R_lt (by (with_reducible repeat (first | apply Kd.R_alloc | apply Kd.R_drewN | apply Kd.R_drew));exact HO285.out))) (Kd.R_lt (by (with_reducible repeat (first | apply Kd.R_alloc | apply Kd.R_drewN | apply Kd.R_drew));exact HO289.out))) (Kd.R_lt (by (with_reducible repeat (first | apply Kd.R_alloc | apply Kd.R_drewN | apply Kd.R_drew));exact HO293.out))) (Kd.R_lt (by (with_reducible repeat (first | apply Kd.R_alloc | apply Kd.R_drewN | apply Kd.R_drew));exact HO296.out))) (Kd.R_lt (by (with_reducible repeat (first | apply Kd.R_alloc | apply Kd.R_drewN | apply Kd.R_drew));exact HO299.out))) (below_size (by repeat (first | (with_reducible first | exact HB.out | apply below_alloc | apply pw_below_drewN | apply below_drew1 | refine below_set ?_ GE264.out) | exact HB.out))))
    have n10_ := Aside0.mk (blk_below (g := gb264) (o := .cells #[.string a2_0,.string a2_1,.int .i64 a2_2,.int .i64 a2_3] 41 (0,0)) (by (with_reducible repeat (first | refine blk_drewN ?_ _ | refine blk_drew ?_ | refine blk_alloc ?_ _));exact BK264.out) hb)
    have n11_ := Aside0.mk (below_step (by repeat (first | (with_reducible first | exact HB.out | apply below_alloc | apply pw_below_drewN | apply below_drew1 | refine below_set ?_ GE264.out) | exact HB.out)) hb)
    clear HO270
    clear HO273
    clear HO277
    clear HO281
    clear HO285
    clear HO289
    clear HO293
    clear HO296
    clear HO299
    clear BK264
    clear HB
    have HO270 := n0_
    have HO273 := n1_
    have HO277 := n2_
    have HO281 := n3_
    have HO285 := n4_
    have HO289 := n5_
    have HO293 := n6_
    have HO296 := n7_
    have HO299 := n8_
    have HO302 := n9_
    have BK264 := n10_
    have HB := n11_
    clear n0_ n1_ n2_ n3_ n4_ n5_ n6_ n7_ n8_ n9_ n10_ n11_
    (try clear hb)
    (try clear hb2)
    (try clear hk)
    (try clear hi)
    (try clear ho0)
    refine hK.out _ _ ⟨(blk_cell BK264.out 0).trans rfl,(blk_cell BK264.out 1).trans rfl,(blk_cell BK264.out 2).trans rfl,(blk_cell BK264.out 3).trans rfl⟩ (fun hHeld => ?_)
    clear hK K
    refine norm_ (a' := ?_) ?_ ?_
    rotate_left
    ·show Act.put _ (some 97) _ = _
     simp only [Act.put,zYGTree7a,zYGTree7b,zYGTree7c,i64_w,i32_w]
     rfl
    refine one_ (i := 16) (N := some 99) #[true,true,true,true,true,true,true,true,true,true,true,true,true,true,true,true,true,true,true,true,false,false,false,false,false,false] rfl rfl (one_of HT_.out (by kernel_rfl)) (by decide) (fun K hK => ?_)
    refine goes_ Tryd.func32 (by kernel_rfl) rfl #[.slice A0 l0.length c0,.int .i64 7,.int .i64 0] (by rfl) rfl rfl (by (try simp only [List.map_toArray,List.map_cons,List.map_nil]);first | done | rfl | (simp only [List.length_drop,List.length_take];rfl)) ?_
    with_reducible refine (steelyardref14_Over.calls _ _ l0 7 0 t303 _ ?side1 ?side2 A33.out).mono ?_
    (case side1 => repeat (first | exact (Kd.C_below HR0.out HB.out) | (with_reducible refine Kd.C_alloc ?_ _) | (with_reducible refine Kd.C_drewN ?_ _) | (with_reducible refine Kd.C_drew ?_)))
    (case side2 => exact HC0.out)
    rintro e w53 ⟨v304,rfl,ho0,hb⟩
    refine ⟨_,rfl,?_⟩
    have n0_ := Aside0.mk (Kd.R_elder' (by (with_reducible repeat (first | apply Kd.R_alloc | apply Kd.R_drewN | apply Kd.R_drew));exact HO270.out) (Kd.R_base ho0) hb)
    have n1_ := Aside0.mk (Kd.R_elder' (by (with_reducible repeat (first | apply Kd.R_alloc | apply Kd.R_drewN | apply Kd.R_drew));exact HO273.out) (Kd.R_base ho0) hb)
    have n2_ := Aside0.mk (Kd.R_elder' (by (with_reducible repeat (first | apply Kd.R_alloc | apply Kd.R_drewN | apply Kd.R_drew));exact HO277.out) (Kd.R_base ho0) hb)
    have n3_ := Aside0.mk (Kd.R_elder' (by (with_reducible repeat (first | apply Kd.R_alloc | apply Kd.R_drewN | apply Kd.R_drew));exact HO281.out) (Kd.R_base ho0) hb)
    have n4_ := Aside0.mk (Kd.R_elder' (by (with_reducible repeat (first | apply Kd.R_alloc | apply Kd.R_drewN | apply Kd.R_drew));exact HO285.out) (Kd.R_base ho0) hb)
    have n5_ := Aside0.mk (Kd.R_elder' (by (with_reducible repeat (first | apply Kd.R_alloc | apply Kd.R_drewN | apply Kd.R_drew));exact HO289.out) (Kd.R_base ho0) hb)
    have n6_ := Aside0.mk (Kd.R_elder' (by (with_reducible repeat (first | apply Kd.R_alloc | apply Kd.R_drewN | apply Kd.R_drew));exact HO293.out) (Kd.R_base ho0) hb)
    have n7_ := Aside0.mk (Kd.R_elder' (by (with_reducible repeat (first | apply Kd.R_alloc | apply Kd.R_drewN | apply Kd.R_drew));exact HO296.out) (Kd.R_base ho0) hb)
    have n8_ := Aside0.mk (Kd.R_elder' (by (with_reducible repeat (first | apply Kd.R_alloc | apply Kd.R_drewN | apply Kd.R_drew));exact HO299.out) (Kd.R_base ho0) hb)
    have n9_ := Aside0.mk (Kd.R_elder' (by (with_reducible repeat (first | apply Kd.R_alloc | apply Kd.R_drewN | apply Kd.R_drew));exact HO302.out) (Kd.R_base ho0) hb)
    have n10_ := Aside0.mk (Kd.R_lower (Kd.R_new' (Kd.R_new' (Kd.R_new' (Kd.R_new' (Kd.R_new' (Kd.R_new' (Kd.R_new' (Kd.R_new' (Kd.R_new' (Kd.R_new' ho0 (Kd.R_lt (by (with_reducible repeat (first | apply Kd.R_alloc | apply Kd.R_drewN | apply Kd.R_drew));exact HO270.out))) (Kd.R_lt (by (with_reducible repeat (first | apply Kd.R_alloc | apply Kd.R_drewN | apply Kd.R_drew));exact HO273.out))) (Kd.R_lt (by (with_reducible repeat (first | apply Kd.R_alloc | apply Kd.R_drewN | apply Kd.R_drew));exact HO277.out))) (Kd.R_lt (by (with_reducible repeat (first | apply Kd.R_alloc | apply Kd.R_drewN | apply Kd.R_drew));exact HO281.out))) (Kd.R_lt (by (with_reducible repeat (first | apply Kd.R_alloc | apply Kd.R_drewN | apply Kd.R_drew));exact HO285.out))) (Kd.R_lt (by (with_reducible repeat (first | apply Kd.R_alloc | apply Kd.R_drewN | apply Kd.R_drew));exact HO289.out))) (Kd.R_lt (by (with_reducible repeat (first | apply Kd.R_alloc | apply Kd.R_drewN | apply Kd.R_drew));exact HO293.out))) (Kd.R_lt (by (with_reducible repeat (first | apply Kd.R_alloc | apply Kd.R_drewN | apply Kd.R_drew));exact HO296.out))) (Kd.R_lt (by (with_reducible repeat (first | apply Kd.R_alloc | apply Kd.R_drewN | apply Kd.R_drew));exact HO299.out))) (Kd.R_lt (by (with_reducible repeat (first | apply Kd.R_alloc | apply Kd.R_drewN | apply Kd.R_drew));exact HO302.out))) (below_size (by repeat (first | (with_reducible first | exact HB.out | apply below_alloc | apply pw_below_drewN | apply below_drew1 | refine below_set ?_ GE264.out) | exact HB.out))))
    have n11_ := Aside0.mk (blk_below (g := gb264) (o := .cells #[.string a2_0,.string a2_1,.int .i64 a2_2,.int .i64 a2_3] 41 (0,0)) (by (with_reducible repeat (first | refine blk_drewN ?_ _ | refine blk_drew ?_ | refine blk_alloc ?_ _));exact BK264.out) hb)
    have n12_ := Aside0.mk (below_step (by repeat (first | (with_reducible first | exact HB.out | apply below_alloc | apply pw_below_drewN | apply below_drew1 | refine below_set ?_ GE264.out) | exact HB.out)) hb)
    clear HO270
    clear HO273
    clear HO277
    clear HO281
    clear HO285
    clear HO289
    clear HO293
    clear HO296
    clear HO299
    clear HO302
    clear BK264
    clear HB
    have HO270 := n0_
    have HO273 := n1_
    have HO277 := n2_
    have HO281 := n3_
    have HO285 := n4_
    have HO289 := n5_
    have HO293 := n6_
    have HO296 := n7_
    have HO299 := n8_
    have HO302 := n9_
    have HO305 := n10_
    have BK264 := n11_
    have HB := n12_
    clear n0_ n1_ n2_ n3_ n4_ n5_ n6_ n7_ n8_ n9_ n10_ n11_ n12_
    (try clear hb)
    (try clear hb2)
    (try clear hk)
    (try clear hi)
    (try clear ho0)
    refine hK.out _ _ ⟨(blk_cell BK264.out 0).trans rfl,(blk_cell BK264.out 1).trans rfl,(blk_cell BK264.out 2).trans rfl,(blk_cell BK264.out 3).trans rfl⟩ (fun hHeld => ?_)
    clear hK K
    refine norm_ (a' := ?_) ?_ ?_
    rotate_left
    ·show Act.put _ (some 99) _ = _
     simp only [Act.put,zYGTree7a,zYGTree7b,zYGTree7c,i64_w,i32_w]
     rfl
    refine one_ (i := 20) (N := some 103) #[true,true,true,true,true,true,true,true,true,true,true,true,true,true,true,true,true,true,true,true,true,false,false,false,false,false] rfl rfl (one_of HT_.out (by kernel_rfl)) (by decide) (fun K hK => ?_)
    refine goes_ Tryd.func32 (by kernel_rfl) rfl #[.slice A0 l0.length c0,.int .i64 8,.int .i64 a2_3] (by rfl) rfl rfl (by (try simp only [List.map_toArray,List.map_cons,List.map_nil]);first | done | rfl | (simp only [List.length_drop,List.length_take];rfl)) ?_
    with_reducible refine (steelyardref14_Over.calls _ _ l0 8 a2_3 t306 _ ?side1 ?side2 A34.out).mono ?_
    (case side1 => repeat (first | exact (Kd.C_below HR0.out HB.out) | (with_reducible refine Kd.C_alloc ?_ _) | (with_reducible refine Kd.C_drewN ?_ _) | (with_reducible refine Kd.C_drew ?_)))
    (case side2 => exact HC0.out)
    rintro e w54 ⟨v307,rfl,ho0,hb⟩
    refine ⟨_,rfl,?_⟩
    have n0_ := Aside0.mk (Kd.R_elder' (by (with_reducible repeat (first | apply Kd.R_alloc | apply Kd.R_drewN | apply Kd.R_drew));exact HO270.out) (Kd.R_base ho0) hb)
    have n1_ := Aside0.mk (Kd.R_elder' (by (with_reducible repeat (first | apply Kd.R_alloc | apply Kd.R_drewN | apply Kd.R_drew));exact HO273.out) (Kd.R_base ho0) hb)
    have n2_ := Aside0.mk (Kd.R_elder' (by (with_reducible repeat (first | apply Kd.R_alloc | apply Kd.R_drewN | apply Kd.R_drew));exact HO277.out) (Kd.R_base ho0) hb)
    have n3_ := Aside0.mk (Kd.R_elder' (by (with_reducible repeat (first | apply Kd.R_alloc | apply Kd.R_drewN | apply Kd.R_drew));exact HO281.out) (Kd.R_base ho0) hb)
    have n4_ := Aside0.mk (Kd.R_elder' (by (with_reducible repeat (first | apply Kd.R_alloc | apply Kd.R_drewN | apply Kd.R_drew));exact HO285.out) (Kd.R_base ho0) hb)
    have n5_ := Aside0.mk (Kd.R_elder' (by (with_reducible repeat (first | apply Kd.R_alloc | apply Kd.R_drewN | apply Kd.R_drew));exact HO289.out) (Kd.R_base ho0) hb)
    have n6_ := Aside0.mk (Kd.R_elder' (by (with_reducible repeat (first | apply Kd.R_alloc | apply Kd.R_drewN | apply Kd.R_drew));exact HO293.out) (Kd.R_base ho0) hb)
    have n7_ := Aside0.mk (Kd.R_elder' (by (with_reducible repeat (first | apply Kd.R_alloc | apply Kd.R_drewN | apply Kd.R_drew));exact HO296.out) (Kd.R_base ho0) hb)
    have n8_ := Aside0.mk (Kd.R_elder' (by (with_reducible repeat (first | apply Kd.R_alloc | apply Kd.R_drewN | apply Kd.R_drew));exact HO299.out) (Kd.R_base ho0) hb)
    have n9_ := Aside0.mk (Kd.R_elder' (by (with_reducible repeat (first | apply Kd.R_alloc | apply Kd.R_drewN | apply Kd.R_drew));exact HO302.out) (Kd.R_base ho0) hb)
    have n10_ := Aside0.mk (Kd.R_elder' (by (with_reducible repeat (first | apply Kd.R_alloc | apply Kd.R_drewN | apply Kd.R_drew));exact HO305.out) (Kd.R_base ho0) hb)
    have n11_ := Aside0.mk (Kd.R_lower (Kd.R_new' (Kd.R_new' (Kd.R_new' (Kd.R_new' (Kd.R_new' (Kd.R_new' (Kd.R_new' (Kd.R_new' (Kd.R_new' (Kd.R_new' (Kd.R_new' ho0 (Kd.R_lt (by (with_reducible repeat (first | apply Kd.R_alloc | apply Kd.R_drewN | apply Kd.R_drew));exact HO270.out))) (Kd.R_lt (by (with_reducible repeat (first | apply Kd.R_alloc | apply Kd.R_drewN | apply Kd.R_drew));exact HO273.out))) (Kd.R_lt (by (with_reducible repeat (first | apply Kd.R_alloc | apply Kd.R_drewN | apply Kd.R_drew));exact HO277.out))) (Kd.R_lt (by (with_reducible repeat (first | apply Kd.R_alloc | apply Kd.R_drewN | apply Kd.R_drew));exact HO281.out))) (Kd.R_lt (by (with_reducible repeat (first | apply Kd.R_alloc | apply Kd.R_drewN | apply Kd.R_drew));exact HO285.out))) (Kd.R_lt (by (with_reducible repeat (first | apply Kd.R_alloc | apply Kd.R_drewN | apply Kd.R_drew));exact HO289.out))) (Kd.R_lt (by (with_reducible repeat (first | apply Kd.R_alloc | apply Kd.R_drewN | apply Kd.R_drew));exact HO293.out))) (Kd.R_lt (by (with_reducible repeat (first | apply Kd.R_alloc | apply Kd.R_drewN | apply Kd.R_drew));exact HO296.out))) (Kd.R_lt (by (with_reducible repeat (first | apply Kd.R_alloc | apply Kd.R_drewN | apply Kd.R_drew));exact HO299.out))) (Kd.R_lt (by (with_reducible repeat (first | apply Kd.R_alloc | apply Kd.R_drewN | apply Kd.R_drew));exact HO302.out))) (Kd.R_lt (by (with_reducible repeat (first | apply Kd.R_alloc | apply Kd.R_drewN | apply Kd.R_drew));exact HO305.out))) (below_size (by repeat (first | (with_reducible first | exact HB.out | apply below_alloc | apply pw_below_drewN | apply below_drew1 | refine below_set ?_ GE264.out) | exact HB.out))))
    have n12_ := Aside0.mk (blk_below (g := gb264) (o := .cells #[.string a2_0,.string a2_1,.int .i64 a2_2,.int .i64 a2_3] 41 (0,0)) (by (with_reducible repeat (first | refine blk_drewN ?_ _ | refine blk_drew ?_ | refine blk_alloc ?_ _));exact BK264.out) hb)
    have n13_ := Aside0.mk (below_step (by repeat (first | (with_reducible first | exact HB.out | apply below_alloc | apply pw_below_drewN | apply below_drew1 | refine below_set ?_ GE264.out) | exact HB.out)) hb)
    clear HO270
    clear HO273
    clear HO277
    clear HO281
    clear HO285
    clear HO289
    clear HO293
    clear HO296
    clear HO299
    clear HO302
    clear HO305
    clear BK264
    clear HB
    have HO270 := n0_
    have HO273 := n1_
    have HO277 := n2_
    have HO281 := n3_
    have HO285 := n4_
    have HO289 := n5_
    have HO293 := n6_
    have HO296 := n7_
    have HO299 := n8_
    have HO302 := n9_
    have HO305 := n10_
    have HO308 := n11_
    have BK264 := n12_
    have HB := n13_
    clear n0_ n1_ n2_ n3_ n4_ n5_ n6_ n7_ n8_ n9_ n10_ n11_ n12_ n13_
    (try clear hb)
    (try clear hb2)
    (try clear hk)
    (try clear hi)
    (try clear ho0)
    refine hK.out _ _ ⟨(blk_cell BK264.out 0).trans rfl,(blk_cell BK264.out 1).trans rfl,(blk_cell BK264.out 2).trans rfl,(blk_cell BK264.out 3).trans rfl⟩ (fun hHeld => ?_)
    clear hK K
    refine norm_ (a' := ?_) ?_ ?_
    rotate_left
    ·show Act.put _ (some 103) _ = _
     simp only [Act.put,zYGTree7a,zYGTree7b,zYGTree7c,i64_w,i32_w]
     rfl
    refine pure_ (i := 21) (N := some 19) (v := ?_) (a' := ?_) #[true,true,true,true,true,true,true,true,true,true,true,true,true,true,true,true,true,true,true,true,true,true,false,false,false,false] rfl rfl (any_of HT_.out (by kernel_rfl)) (fun _ _ _ h => h) (Or.inl ⟨by rfl,?_⟩) ?_ ?_
    rotate_left
    ·intro w'
     go_simp
     with_reducible rfl
    rotate_left
    ·simp only [Act.put,zYGTree7a,zYGTree7b,zYGTree7c,i64_w,i32_w]
     rfl
    refine pure_ (i := 22) (N := some 20) (v := ?_) (a' := ?_) #[true,true,true,true,true,true,true,true,true,true,true,true,true,true,true,true,true,true,true,true,true,true,true,false,false,false] rfl rfl (any_of HT_.out (by kernel_rfl)) (fun _ _ _ h => h) (Or.inl ⟨by rfl,?_⟩) ?_ ?_
    rotate_left
    ·intro w'
     go_simp
     with_reducible rfl
    rotate_left
    ·simp only [Act.put,zYGTree7a,zYGTree7b,zYGTree7c,i64_w,i32_w]
     rfl
    refine pure_ (i := 23) (N := some 21) (v := ?_) (a' := ?_) #[true,true,true,true,true,true,true,true,true,true,true,true,true,true,true,true,true,true,true,true,true,true,true,true,false,false] rfl rfl (any_of HT_.out (by kernel_rfl)) (fun _ _ _ h => h) (Or.inl ⟨by rfl,?_⟩) ?_ ?_
    rotate_left
    ·intro w'
     go_simp
     with_reducible rfl
    rotate_left
    ·simp only [Act.put,zYGTree7a,zYGTree7b,zYGTree7c,i64_w,i32_w]
     rfl
    refine pure_ (i := 24) (N := some 22) (v := ?_) (a' := ?_) #[true,true,true,true,true,true,true,true,true,true,true,true,true,true,true,true,true,true,true,true,true,true,true,true,true,false] rfl rfl (any_of HT_.out (by kernel_rfl)) (fun _ _ _ h => h) (Or.inl ⟨by rfl,?_⟩) ?_ ?_
    rotate_left
    ·intro w'
     go_simp
     with_reducible rfl
    rotate_left
    ·simp only [Act.put,zYGTree7a,zYGTree7b,zYGTree7c,i64_w,i32_w]
     rfl
    refine pure_ (i := 25) (N := some 23) (v := ?_) (a' := ?_) #[true,true,true,true,true,true,true,true,true,true,true,true,true,true,true,true,true,true,true,true,true,true,true,true,true,true] rfl rfl (any_of HT_.out (by kernel_rfl)) (fun _ _ _ h => h) (Or.inl ⟨by rfl,?_⟩) ?_ ?_
    rotate_left
    ·intro w'
     go_simp
     with_reducible rfl
    rotate_left
    ·simp only [Act.put,zYGTree7a,zYGTree7b,zYGTree7c,i64_w,i32_w]
     rfl
    refine done_ (done_of HT_.out (by kernel_rfl)) ?_
    go_upto_region 10 with (fail)
    go_cut [166] (fun v166 wc => ∃ (kq : Nat) (x166_34 : Bool),v166 = .bool x166_34 ∧ Aside0 (steelyardlaw14_TreeTells.j1 kq l0 l1 t268 t271 x166_34 = some r) ∧ Aside0 (kq ≤ kj3) ∧ Aside0 (Kd.R k52 52 wc w.heap.size (fun k_ => some k_ ≠ ((.slice Ao44 t271.length co44) : Value).ownBlock) (.slice Ao43 t268.length co43) t268) ∧ Aside0 (Kd.R k52 52 wc w.heap.size (fun k_ => some k_ ≠ ((.slice Ao43 t268.length co43) : Value).ownBlock) (.slice Ao44 t271.length co44) t271) ∧ Aside0 (wc.heap[gb264]? = some (.cells #[.string a2_0,.string a2_1,.int .i64 a2_2,.int .i64 a2_3] 41 (0,0))) ∧ Aside0 (Below w.heap.size w wc))
    case first => as_aux_lemma =>
     have H := HC35.out
     clear HC35
     replace H := Option.bind_eq_some_iff.mp H
     obtain ⟨t309,A550,H⟩ := H
     replace H : (if t309 = true then (if (t275 != (decide ((t294.length : Int) > 0))) = true then (steelyardlaw14_TreeTells.j1 kj3 l0 l1 t268 t271 true) else ((steelyardkeep_Tree.f kj3 t278 t297).bind fun t310 => (if t310 = true then (if (t279 != (decide ((t297.length : Int) > 0))) = true then (steelyardlaw14_TreeTells.j1 kj3 l0 l1 t268 t271 true) else ((steelyardkeep_Tree.f kj3 t282 t300).bind fun t311 => (if t311 = true then (if (t283 != (decide ((t300.length : Int) > 0))) = true then (steelyardlaw14_TreeTells.j1 kj3 l0 l1 t268 t271 true) else ((steelyardkeep_Tree.f kj3 t286 t303).bind fun t312 => (if t312 = true then (if (t287 != (decide ((t303.length : Int) > 0))) = true then (steelyardlaw14_TreeTells.j1 kj3 l0 l1 t268 t271 true) else ((steelyardkeep_Tree.f kj3 t290 t306).bind fun t313 => (if t313 = true then (steelyardlaw14_TreeTells.j1 kj3 l0 l1 t268 t271 (t291 != (decide ((t306.length : Int) > 0)))) else (steelyardlaw14_TreeTells.j1 kj3 l0 l1 t268 t271 true)))) else (steelyardlaw14_TreeTells.j1 kj3 l0 l1 t268 t271 true)))) else (steelyardlaw14_TreeTells.j1 kj3 l0 l1 t268 t271 true)))) else (steelyardlaw14_TreeTells.j1 kj3 l0 l1 t268 t271 true)))) else (steelyardlaw14_TreeTells.j1 kj3 l0 l1 t268 t271 true)) = some r := H
     have A55 := Aside0.mk A550
     clear A550
     by_cases c56 : t309 = true
     ·subst c56
      have H1 : (if (t275 != (decide ((t294.length : Int) > 0))) = true then (steelyardlaw14_TreeTells.j1 kj3 l0 l1 t268 t271 true) else ((steelyardkeep_Tree.f kj3 t278 t297).bind fun t310 => (if t310 = true then (if (t279 != (decide ((t297.length : Int) > 0))) = true then (steelyardlaw14_TreeTells.j1 kj3 l0 l1 t268 t271 true) else ((steelyardkeep_Tree.f kj3 t282 t300).bind fun t311 => (if t311 = true then (if (t283 != (decide ((t300.length : Int) > 0))) = true then (steelyardlaw14_TreeTells.j1 kj3 l0 l1 t268 t271 true) else ((steelyardkeep_Tree.f kj3 t286 t303).bind fun t312 => (if t312 = true then (if (t287 != (decide ((t303.length : Int) > 0))) = true then (steelyardlaw14_TreeTells.j1 kj3 l0 l1 t268 t271 true) else ((steelyardkeep_Tree.f kj3 t290 t306).bind fun t313 => (if t313 = true then (steelyardlaw14_TreeTells.j1 kj3 l0 l1 t268 t271 (t291 != (decide ((t306.length : Int) > 0)))) else (steelyardlaw14_TreeTells.j1 kj3 l0 l1 t268 t271 true)))) else (steelyardlaw14_TreeTells.j1 kj3 l0 l1 t268 t271 true)))) else (steelyardlaw14_TreeTells.j1 kj3 l0 l1 t268 t271 true)))) else (steelyardlaw14_TreeTells.j1 kj3 l0 l1 t268 t271 true)))) = some r := by rw [if_pos rfl] at H;exact H
      clear H
      have H := H1
      clear H1
      by_cases c57 : (t275 != (decide ((t294.length : Int) > 0))) = true
      ·rw [if_pos c57] at H
       have c57q : t275 = !decide (0 < t294.length) := by revert c57;cases t275 <;> simp
       have c57b0 : (t275 != (decide ((t294.length : Int) > 0))) = true := c57
       (try (have c57b1 : decide (t275 = (decide ((t294.length : Int) > 0))) = false := by simpa using c57))
       (try (have c57b2 : (t275 == (decide ((t294.length : Int) > 0))) = false := by simpa using c57))
       (try (have c57b3 : ¬ (t275 = (decide ((t294.length : Int) > 0))) := by simpa using c57))
       clear c57
       subst c57q
       (first | rw [c57b0] | (simp only [i64_w,i32_w];rw [c57b0]) | skip)
       have H' := Aside0.mk H
       clear H
       obtain ⟨Ao58,co58,eo58⟩ := Kd.R_slice HO277.out
       subst eo58
       obtain ⟨Ao59,co59,eo59⟩ := Kd.R_slice HO296.out
       subst eo59
       go_wp2_with (first | ((with_reducible refine gate_callee (f := 33) rfl ?_);refine goesL_ (some 106) rfl rfl Tryd.func33 (by kernel_rfl) rfl #[.slice Ao58 t274.length co58,.slice Ao59 t294.length co59] rfl (by (try simp only [List.map_toArray,List.map_cons,List.map_nil]);first | done | rfl | (simp only [List.length_drop,List.length_take];rfl)) ?_;(with_reducible refine (steelyardkeep_Tree.calls kj3 _ _ t274 _ _ t294 true _ ?side1 ?side2 ?side3 ?side4 A55.out).mono ?_);(case side1 => repeat (first | exact (Kd.R_reads' HO277.out).2.2 | (with_reducible refine Kd.C_alloc ?_ _) | (with_reducible refine Kd.C_drewN ?_ _) | (with_reducible refine Kd.C_drew ?_)));(case side2 => exact (Kd.R_reads' HO277.out).2.1);(case side3 => repeat (first | exact (Kd.R_reads' HO296.out).2.2 | (with_reducible refine Kd.C_alloc ?_ _) | (with_reducible refine Kd.C_drewN ?_ _) | (with_reducible refine Kd.C_drew ?_)));(case side4 => exact (Kd.R_reads' HO296.out).2.1);rintro e w' ⟨rfl,⟨nd,rfl⟩⟩;refine ⟨_,rfl,?_⟩))
       go_meet
       case rel => exact ⟨_,(true),(by first | rfl | (simp;done) | (simp [*];done) | (simp [*];cases t291 <;> simp;done)),H',⟨by have := HJ3.out;first | omega | exact Nat.le_refl _⟩,⟨by (with_reducible repeat (first | apply Kd.R_alloc | apply Kd.R_drewN | apply Kd.R_drew));exact Kd.R_mono HO270.out (fun _ hk => hk.1.1.1.1.1.1.1.1.1.1.2)⟩,⟨by (with_reducible repeat (first | apply Kd.R_alloc | apply Kd.R_drewN | apply Kd.R_drew));exact Kd.R_mono HO273.out (fun _ hk => hk.1.1.1.1.1.1.1.1.1.1.2)⟩,⟨by (with_reducible repeat (first | refine blk_drewN ?_ _ | refine blk_drew ?_ | refine blk_alloc ?_ _));exact BK264.out⟩,⟨by repeat (first | (with_reducible first | exact HB.out | apply below_alloc | apply pw_below_drewN | apply below_drew1 | refine below_set ?_ GE264.out) | exact HB.out)⟩⟩
      ·rw [if_neg c57] at H
       have c57q : t275 = decide (0 < t294.length) := by simpa using c57
       have c57b0 : (t275 != (decide ((t294.length : Int) > 0))) = false := by simpa using c57
       (try (have c57b1 : decide (t275 = (decide ((t294.length : Int) > 0))) = true := by simpa using c57))
       (try (have c57b2 : (t275 == (decide ((t294.length : Int) > 0))) = true := by simpa using c57))
       clear c57
       subst c57q
       (first | rw [c57b0] | (simp only [i64_w,i32_w];rw [c57b0]) | skip)
       replace H := Option.bind_eq_some_iff.mp H
       obtain ⟨t310,A600,H⟩ := H
       replace H : (if t310 = true then (if (t279 != (decide ((t297.length : Int) > 0))) = true then (steelyardlaw14_TreeTells.j1 kj3 l0 l1 t268 t271 true) else ((steelyardkeep_Tree.f kj3 t282 t300).bind fun t311 => (if t311 = true then (if (t283 != (decide ((t300.length : Int) > 0))) = true then (steelyardlaw14_TreeTells.j1 kj3 l0 l1 t268 t271 true) else ((steelyardkeep_Tree.f kj3 t286 t303).bind fun t312 => (if t312 = true then (if (t287 != (decide ((t303.length : Int) > 0))) = true then (steelyardlaw14_TreeTells.j1 kj3 l0 l1 t268 t271 true) else ((steelyardkeep_Tree.f kj3 t290 t306).bind fun t313 => (if t313 = true then (steelyardlaw14_TreeTells.j1 kj3 l0 l1 t268 t271 (t291 != (decide ((t306.length : Int) > 0)))) else (steelyardlaw14_TreeTells.j1 kj3 l0 l1 t268 t271 true)))) else (steelyardlaw14_TreeTells.j1 kj3 l0 l1 t268 t271 true)))) else (steelyardlaw14_TreeTells.j1 kj3 l0 l1 t268 t271 true)))) else (steelyardlaw14_TreeTells.j1 kj3 l0 l1 t268 t271 true)) = some r := H
       have A60 := Aside0.mk A600
       clear A600
       by_cases c61 : t310 = true
       ·subst c61
        have H1 : (if (t279 != (decide ((t297.length : Int) > 0))) = true then (steelyardlaw14_TreeTells.j1 kj3 l0 l1 t268 t271 true) else ((steelyardkeep_Tree.f kj3 t282 t300).bind fun t311 => (if t311 = true then (if (t283 != (decide ((t300.length : Int) > 0))) = true then (steelyardlaw14_TreeTells.j1 kj3 l0 l1 t268 t271 true) else ((steelyardkeep_Tree.f kj3 t286 t303).bind fun t312 => (if t312 = true then (if (t287 != (decide ((t303.length : Int) > 0))) = true then (steelyardlaw14_TreeTells.j1 kj3 l0 l1 t268 t271 true) else ((steelyardkeep_Tree.f kj3 t290 t306).bind fun t313 => (if t313 = true then (steelyardlaw14_TreeTells.j1 kj3 l0 l1 t268 t271 (t291 != (decide ((t306.length : Int) > 0)))) else (steelyardlaw14_TreeTells.j1 kj3 l0 l1 t268 t271 true)))) else (steelyardlaw14_TreeTells.j1 kj3 l0 l1 t268 t271 true)))) else (steelyardlaw14_TreeTells.j1 kj3 l0 l1 t268 t271 true)))) = some r := by rw [if_pos rfl] at H;exact H
        clear H
        have H := H1
        clear H1
        by_cases c62 : (t279 != (decide ((t297.length : Int) > 0))) = true
        ·rw [if_pos c62] at H
         have c62q : t279 = !decide (0 < t297.length) := by revert c62;cases t279 <;> simp
         have c62b0 : (t279 != (decide ((t297.length : Int) > 0))) = true := c62
         (try (have c62b1 : decide (t279 = (decide ((t297.length : Int) > 0))) = false := by simpa using c62))
         (try (have c62b2 : (t279 == (decide ((t297.length : Int) > 0))) = false := by simpa using c62))
         (try (have c62b3 : ¬ (t279 = (decide ((t297.length : Int) > 0))) := by simpa using c62))
         clear c62
         subst c62q
         have H' := Aside0.mk H
         clear H
         obtain ⟨Ao63,co63,eo63⟩ := Kd.R_slice HO277.out
         subst eo63
         obtain ⟨Ao64,co64,eo64⟩ := Kd.R_slice HO296.out
         subst eo64
         go_wp2_with (first | ((with_reducible refine gate_callee (f := 33) rfl ?_);refine goesL_ (some 106) rfl rfl Tryd.func33 (by kernel_rfl) rfl #[.slice Ao63 t274.length co63,.slice Ao64 t294.length co64] rfl (by (try simp only [List.map_toArray,List.map_cons,List.map_nil]);first | done | rfl | (simp only [List.length_drop,List.length_take];rfl)) ?_;(with_reducible refine (steelyardkeep_Tree.calls kj3 _ _ t274 _ _ t294 true _ ?side1 ?side2 ?side3 ?side4 A55.out).mono ?_);(case side1 => repeat (first | exact (Kd.R_reads' HO277.out).2.2 | (with_reducible refine Kd.C_alloc ?_ _) | (with_reducible refine Kd.C_drewN ?_ _) | (with_reducible refine Kd.C_drew ?_)));(case side2 => exact (Kd.R_reads' HO277.out).2.1);(case side3 => repeat (first | exact (Kd.R_reads' HO296.out).2.2 | (with_reducible refine Kd.C_alloc ?_ _) | (with_reducible refine Kd.C_drewN ?_ _) | (with_reducible refine Kd.C_drew ?_)));(case side4 => exact (Kd.R_reads' HO296.out).2.1);rintro e w' ⟨rfl,⟨nd,rfl⟩⟩;refine ⟨_,rfl,?_⟩;obtain ⟨Ao65,co65,eo65⟩ := Kd.R_slice HO281.out;subst eo65;obtain ⟨Ao66,co66,eo66⟩ := Kd.R_slice HO299.out;subst eo66) | (go_at_call 33;(with_reducible refine (steelyardkeep_Tree.calls kj3 _ _ t278 _ _ t297 true _ ?side1 ?side2 ?side3 ?side4 A60.out).mono ?_);(case side1 => repeat (first | exact (Kd.R_reads' HO281.out).2.2 | (with_reducible refine Kd.C_alloc ?_ _) | (with_reducible refine Kd.C_drewN ?_ _) | (with_reducible refine Kd.C_drew ?_)));(case side2 => exact (Kd.R_reads' HO281.out).2.1);(case side3 => repeat (first | exact (Kd.R_reads' HO299.out).2.2 | (with_reducible refine Kd.C_alloc ?_ _) | (with_reducible refine Kd.C_drewN ?_ _) | (with_reducible refine Kd.C_drew ?_)));(case side4 => exact (Kd.R_reads' HO299.out).2.1);rintro e w' ⟨rfl,⟨nd,rfl⟩⟩))
         go_meet
         case rel => exact ⟨_,(true),(by first | rfl | (simp;done) | (simp [*];done) | (simp [*];cases t291 <;> simp;done)),H',⟨by have := HJ3.out;first | omega | exact Nat.le_refl _⟩,⟨by (with_reducible repeat (first | apply Kd.R_alloc | apply Kd.R_drewN | apply Kd.R_drew));exact Kd.R_mono HO270.out (fun _ hk => hk.1.1.1.1.1.1.1.1.1.1.2)⟩,⟨by (with_reducible repeat (first | apply Kd.R_alloc | apply Kd.R_drewN | apply Kd.R_drew));exact Kd.R_mono HO273.out (fun _ hk => hk.1.1.1.1.1.1.1.1.1.1.2)⟩,⟨by (with_reducible repeat (first | refine blk_drewN ?_ _ | refine blk_drew ?_ | refine blk_alloc ?_ _));exact BK264.out⟩,⟨by repeat (first | (with_reducible first | exact HB.out | apply below_alloc | apply pw_below_drewN | apply below_drew1 | refine below_set ?_ GE264.out) | exact HB.out)⟩⟩
        ·rw [if_neg c62] at H
         have c62q : t279 = decide (0 < t297.length) := by simpa using c62
         have c62b0 : (t279 != (decide ((t297.length : Int) > 0))) = false := by simpa using c62
         (try (have c62b1 : decide (t279 = (decide ((t297.length : Int) > 0))) = true := by simpa using c62))
         (try (have c62b2 : (t279 == (decide ((t297.length : Int) > 0))) = true := by simpa using c62))
         clear c62
         subst c62q
         replace H := Option.bind_eq_some_iff.mp H
         obtain ⟨t311,A670,H⟩ := H
         replace H : (if t311 = true then (if (t283 != (decide ((t300.length : Int) > 0))) = true then (steelyardlaw14_TreeTells.j1 kj3 l0 l1 t268 t271 true) else ((steelyardkeep_Tree.f kj3 t286 t303).bind fun t312 => (if t312 = true then (if (t287 != (decide ((t303.length : Int) > 0))) = true then (steelyardlaw14_TreeTells.j1 kj3 l0 l1 t268 t271 true) else ((steelyardkeep_Tree.f kj3 t290 t306).bind fun t313 => (if t313 = true then (steelyardlaw14_TreeTells.j1 kj3 l0 l1 t268 t271 (t291 != (decide ((t306.length : Int) > 0)))) else (steelyardlaw14_TreeTells.j1 kj3 l0 l1 t268 t271 true)))) else (steelyardlaw14_TreeTells.j1 kj3 l0 l1 t268 t271 true)))) else (steelyardlaw14_TreeTells.j1 kj3 l0 l1 t268 t271 true)) = some r := H
         have A67 := Aside0.mk A670
         clear A670
         by_cases c68 : t311 = true
         ·subst c68
          have H1 : (if (t283 != (decide ((t300.length : Int) > 0))) = true then (steelyardlaw14_TreeTells.j1 kj3 l0 l1 t268 t271 true) else ((steelyardkeep_Tree.f kj3 t286 t303).bind fun t312 => (if t312 = true then (if (t287 != (decide ((t303.length : Int) > 0))) = true then (steelyardlaw14_TreeTells.j1 kj3 l0 l1 t268 t271 true) else ((steelyardkeep_Tree.f kj3 t290 t306).bind fun t313 => (if t313 = true then (steelyardlaw14_TreeTells.j1 kj3 l0 l1 t268 t271 (t291 != (decide ((t306.length : Int) > 0)))) else (steelyardlaw14_TreeTells.j1 kj3 l0 l1 t268 t271 true)))) else (steelyardlaw14_TreeTells.j1 kj3 l0 l1 t268 t271 true)))) = some r := by rw [if_pos rfl] at H;exact H
          clear H
          have H := H1
          clear H1
          by_cases c69 : (t283 != (decide ((t300.length : Int) > 0))) = true
          ·rw [if_pos c69] at H
           have c69q : t283 = !decide (0 < t300.length) := by revert c69;cases t283 <;> simp
           have c69b0 : (t283 != (decide ((t300.length : Int) > 0))) = true := c69
           (try (have c69b1 : decide (t283 = (decide ((t300.length : Int) > 0))) = false := by simpa using c69))
           (try (have c69b2 : (t283 == (decide ((t300.length : Int) > 0))) = false := by simpa using c69))
           (try (have c69b3 : ¬ (t283 = (decide ((t300.length : Int) > 0))) := by simpa using c69))
           clear c69
           subst c69q
           have H' := Aside0.mk H
           clear H
           obtain ⟨Ao70,co70,eo70⟩ := Kd.R_slice HO277.out
           subst eo70
           obtain ⟨Ao71,co71,eo71⟩ := Kd.R_slice HO296.out
           subst eo71
           go_wp2_with (first | ((with_reducible refine gate_callee (f := 33) rfl ?_);refine goesL_ (some 106) rfl rfl Tryd.func33 (by kernel_rfl) rfl #[.slice Ao70 t274.length co70,.slice Ao71 t294.length co71] rfl (by (try simp only [List.map_toArray,List.map_cons,List.map_nil]);first | done | rfl | (simp only [List.length_drop,List.length_take];rfl)) ?_;(with_reducible refine (steelyardkeep_Tree.calls kj3 _ _ t274 _ _ t294 true _ ?side1 ?side2 ?side3 ?side4 A55.out).mono ?_);(case side1 => repeat (first | exact (Kd.R_reads' HO277.out).2.2 | (with_reducible refine Kd.C_alloc ?_ _) | (with_reducible refine Kd.C_drewN ?_ _) | (with_reducible refine Kd.C_drew ?_)));(case side2 => exact (Kd.R_reads' HO277.out).2.1);(case side3 => repeat (first | exact (Kd.R_reads' HO296.out).2.2 | (with_reducible refine Kd.C_alloc ?_ _) | (with_reducible refine Kd.C_drewN ?_ _) | (with_reducible refine Kd.C_drew ?_)));(case side4 => exact (Kd.R_reads' HO296.out).2.1);rintro e w' ⟨rfl,⟨nd,rfl⟩⟩;refine ⟨_,rfl,?_⟩;obtain ⟨Ao72,co72,eo72⟩ := Kd.R_slice HO281.out;subst eo72;obtain ⟨Ao73,co73,eo73⟩ := Kd.R_slice HO299.out;subst eo73) | (go_at_call 33;(with_reducible refine (steelyardkeep_Tree.calls kj3 _ _ t278 _ _ t297 true _ ?side1 ?side2 ?side3 ?side4 A60.out).mono ?_);(case side1 => repeat (first | exact (Kd.R_reads' HO281.out).2.2 | (with_reducible refine Kd.C_alloc ?_ _) | (with_reducible refine Kd.C_drewN ?_ _) | (with_reducible refine Kd.C_drew ?_)));(case side2 => exact (Kd.R_reads' HO281.out).2.1);(case side3 => repeat (first | exact (Kd.R_reads' HO299.out).2.2 | (with_reducible refine Kd.C_alloc ?_ _) | (with_reducible refine Kd.C_drewN ?_ _) | (with_reducible refine Kd.C_drew ?_)));(case side4 => exact (Kd.R_reads' HO299.out).2.1);rintro e w' ⟨rfl,⟨nd,rfl⟩⟩;obtain ⟨Ao74,co74,eo74⟩ := Kd.R_slice HO285.out;subst eo74;obtain ⟨Ao75,co75,eo75⟩ := Kd.R_slice HO302.out;subst eo75) | (go_at_call 33;(with_reducible refine (steelyardkeep_Tree.calls kj3 _ _ t282 _ _ t300 true _ ?side1 ?side2 ?side3 ?side4 A67.out).mono ?_);(case side1 => repeat (first | exact (Kd.R_reads' HO285.out).2.2 | (with_reducible refine Kd.C_alloc ?_ _) | (with_reducible refine Kd.C_drewN ?_ _) | (with_reducible refine Kd.C_drew ?_)));(case side2 => exact (Kd.R_reads' HO285.out).2.1);(case side3 => repeat (first | exact (Kd.R_reads' HO302.out).2.2 | (with_reducible refine Kd.C_alloc ?_ _) | (with_reducible refine Kd.C_drewN ?_ _) | (with_reducible refine Kd.C_drew ?_)));(case side4 => exact (Kd.R_reads' HO302.out).2.1);rintro e w' ⟨rfl,⟨nd,rfl⟩⟩))
           go_meet
           case rel => exact ⟨_,(true),(by first | rfl | (simp;done) | (simp [*];done) | (simp [*];cases t291 <;> simp;done)),H',⟨by have := HJ3.out;first | omega | exact Nat.le_refl _⟩,⟨by (with_reducible repeat (first | apply Kd.R_alloc | apply Kd.R_drewN | apply Kd.R_drew));exact Kd.R_mono HO270.out (fun _ hk => hk.1.1.1.1.1.1.1.1.1.1.2)⟩,⟨by (with_reducible repeat (first | apply Kd.R_alloc | apply Kd.R_drewN | apply Kd.R_drew));exact Kd.R_mono HO273.out (fun _ hk => hk.1.1.1.1.1.1.1.1.1.1.2)⟩,⟨by (with_reducible repeat (first | refine blk_drewN ?_ _ | refine blk_drew ?_ | refine blk_alloc ?_ _));exact BK264.out⟩,⟨by repeat (first | (with_reducible first | exact HB.out | apply below_alloc | apply pw_below_drewN | apply below_drew1 | refine below_set ?_ GE264.out) | exact HB.out)⟩⟩
          ·rw [if_neg c69] at H
           have c69q : t283 = decide (0 < t300.length) := by simpa using c69
           have c69b0 : (t283 != (decide ((t300.length : Int) > 0))) = false := by simpa using c69
           (try (have c69b1 : decide (t283 = (decide ((t300.length : Int) > 0))) = true := by simpa using c69))
           (try (have c69b2 : (t283 == (decide ((t300.length : Int) > 0))) = true := by simpa using c69))
           clear c69
           subst c69q
           replace H := Option.bind_eq_some_iff.mp H
           obtain ⟨t312,A760,H⟩ := H
           replace H : (if t312 = true then (if (t287 != (decide ((t303.length : Int) > 0))) = true then (steelyardlaw14_TreeTells.j1 kj3 l0 l1 t268 t271 true) else ((steelyardkeep_Tree.f kj3 t290 t306).bind fun t313 => (if t313 = true then (steelyardlaw14_TreeTells.j1 kj3 l0 l1 t268 t271 (t291 != (decide ((t306.length : Int) > 0)))) else (steelyardlaw14_TreeTells.j1 kj3 l0 l1 t268 t271 true)))) else (steelyardlaw14_TreeTells.j1 kj3 l0 l1 t268 t271 true)) = some r := H
           have A76 := Aside0.mk A760
           clear A760
           by_cases c77 : t312 = true
           ·subst c77
            have H1 : (if (t287 != (decide ((t303.length : Int) > 0))) = true then (steelyardlaw14_TreeTells.j1 kj3 l0 l1 t268 t271 true) else ((steelyardkeep_Tree.f kj3 t290 t306).bind fun t313 => (if t313 = true then (steelyardlaw14_TreeTells.j1 kj3 l0 l1 t268 t271 (t291 != (decide ((t306.length : Int) > 0)))) else (steelyardlaw14_TreeTells.j1 kj3 l0 l1 t268 t271 true)))) = some r := by rw [if_pos rfl] at H;exact H
            clear H
            have H := H1
            clear H1
            by_cases c78 : (t287 != (decide ((t303.length : Int) > 0))) = true
            ·rw [if_pos c78] at H
             have c78q : t287 = !decide (0 < t303.length) := by revert c78;cases t287 <;> simp
             have c78b0 : (t287 != (decide ((t303.length : Int) > 0))) = true := c78
             (try (have c78b1 : decide (t287 = (decide ((t303.length : Int) > 0))) = false := by simpa using c78))
             (try (have c78b2 : (t287 == (decide ((t303.length : Int) > 0))) = false := by simpa using c78))
             (try (have c78b3 : ¬ (t287 = (decide ((t303.length : Int) > 0))) := by simpa using c78))
             clear c78
             subst c78q
             have H' := Aside0.mk H
             clear H
             obtain ⟨Ao79,co79,eo79⟩ := Kd.R_slice HO277.out
             subst eo79
             obtain ⟨Ao80,co80,eo80⟩ := Kd.R_slice HO296.out
             subst eo80
             go_wp2_with (first | ((with_reducible refine gate_callee (f := 33) rfl ?_);refine goesL_ (some 106) rfl rfl Tryd.func33 (by kernel_rfl) rfl #[.slice Ao79 t274.length co79,.slice Ao80 t294.length co80] rfl (by (try simp only [List.map_toArray,List.map_cons,List.map_nil]);first | done | rfl | (simp only [List.length_drop,List.length_take];rfl)) ?_;(with_reducible refine (steelyardkeep_Tree.calls kj3 _ _ t274 _ _ t294 true _ ?side1 ?side2 ?side3 ?side4 A55.out).mono ?_);(case side1 => repeat (first | exact (Kd.R_reads' HO277.out).2.2 | (with_reducible refine Kd.C_alloc ?_ _) | (with_reducible refine Kd.C_drewN ?_ _) | (with_reducible refine Kd.C_drew ?_)));(case side2 => exact (Kd.R_reads' HO277.out).2.1);(case side3 => repeat (first | exact (Kd.R_reads' HO296.out).2.2 | (with_reducible refine Kd.C_alloc ?_ _) | (with_reducible refine Kd.C_drewN ?_ _) | (with_reducible refine Kd.C_drew ?_)));(case side4 => exact (Kd.R_reads' HO296.out).2.1);rintro e w' ⟨rfl,⟨nd,rfl⟩⟩;refine ⟨_,rfl,?_⟩;obtain ⟨Ao81,co81,eo81⟩ := Kd.R_slice HO281.out;subst eo81;obtain ⟨Ao82,co82,eo82⟩ := Kd.R_slice HO299.out;subst eo82) | (go_at_call 33;(with_reducible refine (steelyardkeep_Tree.calls kj3 _ _ t278 _ _ t297 true _ ?side1 ?side2 ?side3 ?side4 A60.out).mono ?_);(case side1 => repeat (first | exact (Kd.R_reads' HO281.out).2.2 | (with_reducible refine Kd.C_alloc ?_ _) | (with_reducible refine Kd.C_drewN ?_ _) | (with_reducible refine Kd.C_drew ?_)));(case side2 => exact (Kd.R_reads' HO281.out).2.1);(case side3 => repeat (first | exact (Kd.R_reads' HO299.out).2.2 | (with_reducible refine Kd.C_alloc ?_ _) | (with_reducible refine Kd.C_drewN ?_ _) | (with_reducible refine Kd.C_drew ?_)));(case side4 => exact (Kd.R_reads' HO299.out).2.1);rintro e w' ⟨rfl,⟨nd,rfl⟩⟩;obtain ⟨Ao83,co83,eo83⟩ := Kd.R_slice HO285.out;subst eo83;obtain ⟨Ao84,co84,eo84⟩ := Kd.R_slice HO302.out;subst eo84) | (go_at_call 33;(with_reducible refine (steelyardkeep_Tree.calls kj3 _ _ t282 _ _ t300 true _ ?side1 ?side2 ?side3 ?side4 A67.out).mono ?_);(case side1 => repeat (first | exact (Kd.R_reads' HO285.out).2.2 | (with_reducible refine Kd.C_alloc ?_ _) | (with_reducible refine Kd.C_drewN ?_ _) | (with_reducible refine Kd.C_drew ?_)));(case side2 => exact (Kd.R_reads' HO285.out).2.1);(case side3 => repeat (first | exact (Kd.R_reads' HO302.out).2.2 | (with_reducible refine Kd.C_alloc ?_ _) | (with_reducible refine Kd.C_drewN ?_ _) | (with_reducible refine Kd.C_drew ?_)));(case side4 => exact (Kd.R_reads' HO302.out).2.1);rintro e w' ⟨rfl,⟨nd,rfl⟩⟩;obtain ⟨Ao85,co85,eo85⟩ := Kd.R_slice HO289.out;subst eo85;obtain ⟨Ao86,co86,eo86⟩ := Kd.R_slice HO305.out;subst eo86) | (go_at_call 33;(with_reducible refine (steelyardkeep_Tree.calls kj3 _ _ t286 _ _ t303 true _ ?side1 ?side2 ?side3 ?side4 A76.out).mono ?_);(case side1 => repeat (first | exact (Kd.R_reads' HO289.out).2.2 | (with_reducible refine Kd.C_alloc ?_ _) | (with_reducible refine Kd.C_drewN ?_ _) | (with_reducible refine Kd.C_drew ?_)));(case side2 => exact (Kd.R_reads' HO289.out).2.1);(case side3 => repeat (first | exact (Kd.R_reads' HO305.out).2.2 | (with_reducible refine Kd.C_alloc ?_ _) | (with_reducible refine Kd.C_drewN ?_ _) | (with_reducible refine Kd.C_drew ?_)));(case side4 => exact (Kd.R_reads' HO305.out).2.1);rintro e w' ⟨rfl,⟨nd,rfl⟩⟩))
             go_meet
             case rel => exact ⟨_,(true),(by first | rfl | (simp;done) | (simp [*];done) | (simp [*];cases t291 <;> simp;done)),H',⟨by have := HJ3.out;first | omega | exact Nat.le_refl _⟩,⟨by (with_reducible repeat (first | apply Kd.R_alloc | apply Kd.R_drewN | apply Kd.R_drew));exact Kd.R_mono HO270.out (fun _ hk => hk.1.1.1.1.1.1.1.1.1.1.2)⟩,⟨by (with_reducible repeat (first | apply Kd.R_alloc | apply Kd.R_drewN | apply Kd.R_drew));exact Kd.R_mono HO273.out (fun _ hk => hk.1.1.1.1.1.1.1.1.1.1.2)⟩,⟨by (with_reducible repeat (first | refine blk_drewN ?_ _ | refine blk_drew ?_ | refine blk_alloc ?_ _));exact BK264.out⟩,⟨by repeat (first | (with_reducible first | exact HB.out | apply below_alloc | apply pw_below_drewN | apply below_drew1 | refine below_set ?_ GE264.out) | exact HB.out)⟩⟩
            ·rw [if_neg c78] at H
             have c78q : t287 = decide (0 < t303.length) := by simpa using c78
             have c78b0 : (t287 != (decide ((t303.length : Int) > 0))) = false := by simpa using c78
             (try (have c78b1 : decide (t287 = (decide ((t303.length : Int) > 0))) = true := by simpa using c78))
             (try (have c78b2 : (t287 == (decide ((t303.length : Int) > 0))) = true := by simpa using c78))
             clear c78
             subst c78q
             replace H := Option.bind_eq_some_iff.mp H
             obtain ⟨t313,A870,H⟩ := H
             replace H : (if t313 = true then (steelyardlaw14_TreeTells.j1 kj3 l0 l1 t268 t271 (t291 != (decide ((t306.length : Int) > 0)))) else (steelyardlaw14_TreeTells.j1 kj3 l0 l1 t268 t271 true)) = some r := H
             have A87 := Aside0.mk A870
             clear A870
             by_cases c88 : t313 = true
             ·subst c88
              have H1 : (steelyardlaw14_TreeTells.j1 kj3 l0 l1 t268 t271 (t291 != (decide ((t306.length : Int) > 0)))) = some r := by rw [if_pos rfl] at H;exact H
              clear H
              have H := H1
              clear H1
              have H' := Aside0.mk H
              clear H
              obtain ⟨Ao89,co89,eo89⟩ := Kd.R_slice HO277.out
              subst eo89
              obtain ⟨Ao90,co90,eo90⟩ := Kd.R_slice HO296.out
              subst eo90
              go_wp2_with (first | ((with_reducible refine gate_callee (f := 33) rfl ?_);refine goesL_ (some 106) rfl rfl Tryd.func33 (by kernel_rfl) rfl #[.slice Ao89 t274.length co89,.slice Ao90 t294.length co90] rfl (by (try simp only [List.map_toArray,List.map_cons,List.map_nil]);first | done | rfl | (simp only [List.length_drop,List.length_take];rfl)) ?_;(with_reducible refine (steelyardkeep_Tree.calls kj3 _ _ t274 _ _ t294 true _ ?side1 ?side2 ?side3 ?side4 A55.out).mono ?_);(case side1 => repeat (first | exact (Kd.R_reads' HO277.out).2.2 | (with_reducible refine Kd.C_alloc ?_ _) | (with_reducible refine Kd.C_drewN ?_ _) | (with_reducible refine Kd.C_drew ?_)));(case side2 => exact (Kd.R_reads' HO277.out).2.1);(case side3 => repeat (first | exact (Kd.R_reads' HO296.out).2.2 | (with_reducible refine Kd.C_alloc ?_ _) | (with_reducible refine Kd.C_drewN ?_ _) | (with_reducible refine Kd.C_drew ?_)));(case side4 => exact (Kd.R_reads' HO296.out).2.1);rintro e w' ⟨rfl,⟨nd,rfl⟩⟩;refine ⟨_,rfl,?_⟩;obtain ⟨Ao91,co91,eo91⟩ := Kd.R_slice HO281.out;subst eo91;obtain ⟨Ao92,co92,eo92⟩ := Kd.R_slice HO299.out;subst eo92) | (go_at_call 33;(with_reducible refine (steelyardkeep_Tree.calls kj3 _ _ t278 _ _ t297 true _ ?side1 ?side2 ?side3 ?side4 A60.out).mono ?_);(case side1 => repeat (first | exact (Kd.R_reads' HO281.out).2.2 | (with_reducible refine Kd.C_alloc ?_ _) | (with_reducible refine Kd.C_drewN ?_ _) | (with_reducible refine Kd.C_drew ?_)));(case side2 => exact (Kd.R_reads' HO281.out).2.1);(case side3 => repeat (first | exact (Kd.R_reads' HO299.out).2.2 | (with_reducible refine Kd.C_alloc ?_ _) | (with_reducible refine Kd.C_drewN ?_ _) | (with_reducible refine Kd.C_drew ?_)));(case side4 => exact (Kd.R_reads' HO299.out).2.1);rintro e w' ⟨rfl,⟨nd,rfl⟩⟩;obtain ⟨Ao93,co93,eo93⟩ := Kd.R_slice HO285.out;subst eo93;obtain ⟨Ao94,co94,eo94⟩ := Kd.R_slice HO302.out;subst eo94) | (go_at_call 33;(with_reducible refine (steelyardkeep_Tree.calls kj3 _ _ t282 _ _ t300 true _ ?side1 ?side2 ?side3 ?side4 A67.out).mono ?_);(case side1 => repeat (first | exact (Kd.R_reads' HO285.out).2.2 | (with_reducible refine Kd.C_alloc ?_ _) | (with_reducible refine Kd.C_drewN ?_ _) | (with_reducible refine Kd.C_drew ?_)));(case side2 => exact (Kd.R_reads' HO285.out).2.1);(case side3 => repeat (first | exact (Kd.R_reads' HO302.out).2.2 | (with_reducible refine Kd.C_alloc ?_ _) | (with_reducible refine Kd.C_drewN ?_ _) | (with_reducible refine Kd.C_drew ?_)));(case side4 => exact (Kd.R_reads' HO302.out).2.1);rintro e w' ⟨rfl,⟨nd,rfl⟩⟩;obtain ⟨Ao95,co95,eo95⟩ := Kd.R_slice HO289.out;subst eo95;obtain ⟨Ao96,co96,eo96⟩ := Kd.R_slice HO305.out;subst eo96) | (go_at_call 33;(with_reducible refine (steelyardkeep_Tree.calls kj3 _ _ t286 _ _ t303 true _ ?side1 ?side2 ?side3 ?side4 A76.out).mono ?_);(case side1 => repeat (first | exact (Kd.R_reads' HO289.out).2.2 | (with_reducible refine Kd.C_alloc ?_ _) | (with_reducible refine Kd.C_drewN ?_ _) | (with_reducible refine Kd.C_drew ?_)));(case side2 => exact (Kd.R_reads' HO289.out).2.1);(case side3 => repeat (first | exact (Kd.R_reads' HO305.out).2.2 | (with_reducible refine Kd.C_alloc ?_ _) | (with_reducible refine Kd.C_drewN ?_ _) | (with_reducible refine Kd.C_drew ?_)));(case side4 => exact (Kd.R_reads' HO305.out).2.1);rintro e w' ⟨rfl,⟨nd,rfl⟩⟩;obtain ⟨Ao97,co97,eo97⟩ := Kd.R_slice HO293.out;subst eo97;obtain ⟨Ao98,co98,eo98⟩ := Kd.R_slice HO308.out;subst eo98) | (go_at_call 33;(with_reducible refine (steelyardkeep_Tree.calls kj3 _ _ t290 _ _ t306 true _ ?side1 ?side2 ?side3 ?side4 A87.out).mono ?_);(case side1 => repeat (first | exact (Kd.R_reads' HO293.out).2.2 | (with_reducible refine Kd.C_alloc ?_ _) | (with_reducible refine Kd.C_drewN ?_ _) | (with_reducible refine Kd.C_drew ?_)));(case side2 => exact (Kd.R_reads' HO293.out).2.1);(case side3 => repeat (first | exact (Kd.R_reads' HO308.out).2.2 | (with_reducible refine Kd.C_alloc ?_ _) | (with_reducible refine Kd.C_drewN ?_ _) | (with_reducible refine Kd.C_drew ?_)));(case side4 => exact (Kd.R_reads' HO308.out).2.1);rintro e w' ⟨rfl,⟨nd,rfl⟩⟩))
              go_meet
              case rel => exact ⟨_,((t291 != (decide ((t306.length : Int) > 0)))),(by first | rfl | (simp;done) | (simp [*];done) | (simp [*];cases t291 <;> simp;done)),H',⟨by have := HJ3.out;first | omega | exact Nat.le_refl _⟩,⟨by (with_reducible repeat (first | apply Kd.R_alloc | apply Kd.R_drewN | apply Kd.R_drew));exact Kd.R_mono HO270.out (fun _ hk => hk.1.1.1.1.1.1.1.1.1.1.2)⟩,⟨by (with_reducible repeat (first | apply Kd.R_alloc | apply Kd.R_drewN | apply Kd.R_drew));exact Kd.R_mono HO273.out (fun _ hk => hk.1.1.1.1.1.1.1.1.1.1.2)⟩,⟨by (with_reducible repeat (first | refine blk_drewN ?_ _ | refine blk_drew ?_ | refine blk_alloc ?_ _));exact BK264.out⟩,⟨by repeat (first | (with_reducible first | exact HB.out | apply below_alloc | apply pw_below_drewN | apply below_drew1 | refine below_set ?_ GE264.out) | exact HB.out)⟩⟩
             ·replace c88 := Bool.eq_false_iff.mpr c88
              subst c88
              have H1 : (steelyardlaw14_TreeTells.j1 kj3 l0 l1 t268 t271 true) = some r := by rw [if_neg (show ¬ (false = true) by decide)] at H;exact H
              clear H
              have H := H1
              clear H1
              have H' := Aside0.mk H
              clear H
              obtain ⟨Ao99,co99,eo99⟩ := Kd.R_slice HO277.out
              subst eo99
              obtain ⟨Ao100,co100,eo100⟩ := Kd.R_slice HO296.out
              subst eo100
              go_wp2_with (first | ((with_reducible refine gate_callee (f := 33) rfl ?_);refine goesL_ (some 106) rfl rfl Tryd.func33 (by kernel_rfl) rfl #[.slice Ao99 t274.length co99,.slice Ao100 t294.length co100] rfl (by (try simp only [List.map_toArray,List.map_cons,List.map_nil]);first | done | rfl | (simp only [List.length_drop,List.length_take];rfl)) ?_;(with_reducible refine (steelyardkeep_Tree.calls kj3 _ _ t274 _ _ t294 true _ ?side1 ?side2 ?side3 ?side4 A55.out).mono ?_);(case side1 => repeat (first | exact (Kd.R_reads' HO277.out).2.2 | (with_reducible refine Kd.C_alloc ?_ _) | (with_reducible refine Kd.C_drewN ?_ _) | (with_reducible refine Kd.C_drew ?_)));(case side2 => exact (Kd.R_reads' HO277.out).2.1);(case side3 => repeat (first | exact (Kd.R_reads' HO296.out).2.2 | (with_reducible refine Kd.C_alloc ?_ _) | (with_reducible refine Kd.C_drewN ?_ _) | (with_reducible refine Kd.C_drew ?_)));(case side4 => exact (Kd.R_reads' HO296.out).2.1);rintro e w' ⟨rfl,⟨nd,rfl⟩⟩;refine ⟨_,rfl,?_⟩;obtain ⟨Ao101,co101,eo101⟩ := Kd.R_slice HO281.out;subst eo101;obtain ⟨Ao102,co102,eo102⟩ := Kd.R_slice HO299.out;subst eo102) | (go_at_call 33;(with_reducible refine (steelyardkeep_Tree.calls kj3 _ _ t278 _ _ t297 true _ ?side1 ?side2 ?side3 ?side4 A60.out).mono ?_);(case side1 => repeat (first | exact (Kd.R_reads' HO281.out).2.2 | (with_reducible refine Kd.C_alloc ?_ _) | (with_reducible refine Kd.C_drewN ?_ _) | (with_reducible refine Kd.C_drew ?_)));(case side2 => exact (Kd.R_reads' HO281.out).2.1);(case side3 => repeat (first | exact (Kd.R_reads' HO299.out).2.2 | (with_reducible refine Kd.C_alloc ?_ _) | (with_reducible refine Kd.C_drewN ?_ _) | (with_reducible refine Kd.C_drew ?_)));(case side4 => exact (Kd.R_reads' HO299.out).2.1);rintro e w' ⟨rfl,⟨nd,rfl⟩⟩;obtain ⟨Ao103,co103,eo103⟩ := Kd.R_slice HO285.out;subst eo103;obtain ⟨Ao104,co104,eo104⟩ := Kd.R_slice HO302.out;subst eo104) | (go_at_call 33;(with_reducible refine (steelyardkeep_Tree.calls kj3 _ _ t282 _ _ t300 true _ ?side1 ?side2 ?side3 ?side4 A67.out).mono ?_);(case side1 => repeat (first | exact (Kd.R_reads' HO285.out).2.2 | (with_reducible refine Kd.C_alloc ?_ _) | (with_reducible refine Kd.C_drewN ?_ _) | (with_reducible refine Kd.C_drew ?_)));(case side2 => exact (Kd.R_reads' HO285.out).2.1);(case side3 => repeat (first | exact (Kd.R_reads' HO302.out).2.2 | (with_reducible refine Kd.C_alloc ?_ _) | (with_reducible refine Kd.C_drewN ?_ _) | (with_reducible refine Kd.C_drew ?_)));(case side4 => exact (Kd.R_reads' HO302.out).2.1);rintro e w' ⟨rfl,⟨nd,rfl⟩⟩;obtain ⟨Ao105,co105,eo105⟩ := Kd.R_slice HO289.out;subst eo105;obtain ⟨Ao106,co106,eo106⟩ := Kd.R_slice HO305.out;subst eo106) | (go_at_call 33;(with_reducible refine (steelyardkeep_Tree.calls kj3 _ _ t286 _ _ t303 true _ ?side1 ?side2 ?side3 ?side4 A76.out).mono ?_);(case side1 => repeat (first | exact (Kd.R_reads' HO289.out).2.2 | (with_reducible refine Kd.C_alloc ?_ _) | (with_reducible refine Kd.C_drewN ?_ _) | (with_reducible refine Kd.C_drew ?_)));(case side2 => exact (Kd.R_reads' HO289.out).2.1);(case side3 => repeat (first | exact (Kd.R_reads' HO305.out).2.2 | (with_reducible refine Kd.C_alloc ?_ _) | (with_reducible refine Kd.C_drewN ?_ _) | (with_reducible refine Kd.C_drew ?_)));(case side4 => exact (Kd.R_reads' HO305.out).2.1);rintro e w' ⟨rfl,⟨nd,rfl⟩⟩;obtain ⟨Ao107,co107,eo107⟩ := Kd.R_slice HO293.out;subst eo107;obtain ⟨Ao108,co108,eo108⟩ := Kd.R_slice HO308.out;subst eo108) | (go_at_call 33;(with_reducible refine (steelyardkeep_Tree.calls kj3 _ _ t290 _ _ t306 false _ ?side1 ?side2 ?side3 ?side4 A87.out).mono ?_);(case side1 => repeat (first | exact (Kd.R_reads' HO293.out).2.2 | (with_reducible refine Kd.C_alloc ?_ _) | (with_reducible refine Kd.C_drewN ?_ _) | (with_reducible refine Kd.C_drew ?_)));(case side2 => exact (Kd.R_reads' HO293.out).2.1);(case side3 => repeat (first | exact (Kd.R_reads' HO308.out).2.2 | (with_reducible refine Kd.C_alloc ?_ _) | (with_reducible refine Kd.C_drewN ?_ _) | (with_reducible refine Kd.C_drew ?_)));(case side4 => exact (Kd.R_reads' HO308.out).2.1);rintro e w' ⟨rfl,⟨nd,rfl⟩⟩))
              go_meet
              case rel => exact ⟨_,(true),(by first | rfl | (simp;done) | (simp [*];done) | (simp [*];cases t291 <;> simp;done)),H',⟨by have := HJ3.out;first | omega | exact Nat.le_refl _⟩,⟨by (with_reducible repeat (first | apply Kd.R_alloc | apply Kd.R_drewN | apply Kd.R_drew));exact Kd.R_mono HO270.out (fun _ hk => hk.1.1.1.1.1.1.1.1.1.1.2)⟩,⟨by (with_reducible repeat (first | apply Kd.R_alloc | apply Kd.R_drewN | apply Kd.R_drew));exact Kd.R_mono HO273.out (fun _ hk => hk.1.1.1.1.1.1.1.1.1.1.2)⟩,⟨by (with_reducible repeat (first | refine blk_drewN ?_ _ | refine blk_drew ?_ | refine blk_alloc ?_ _));exact BK264.out⟩,⟨by repeat (first | (with_reducible first | exact HB.out | apply below_alloc | apply pw_below_drewN | apply below_drew1 | refine below_set ?_ GE264.out) | exact HB.out)⟩⟩
           ·replace c77 := Bool.eq_false_iff.mpr c77
            subst c77
            have H1 : (steelyardlaw14_TreeTells.j1 kj3 l0 l1 t268 t271 true) = some r := by rw [if_neg (show ¬ (false = true) by decide)] at H;exact H
            clear H
            have H := H1
            clear H1
            have H' := Aside0.mk H
            clear H
            obtain ⟨Ao109,co109,eo109⟩ := Kd.R_slice HO277.out
            subst eo109
            obtain ⟨Ao110,co110,eo110⟩ := Kd.R_slice HO296.out
            subst eo110
            go_wp2_with (first | ((with_reducible refine gate_callee (f := 33) rfl ?_);refine goesL_ (some 106) rfl rfl Tryd.func33 (by kernel_rfl) rfl #[.slice Ao109 t274.length co109,.slice Ao110 t294.length co110] rfl (by (try simp only [List.map_toArray,List.map_cons,List.map_nil]);first | done | rfl | (simp only [List.length_drop,List.length_take];rfl)) ?_;(with_reducible refine (steelyardkeep_Tree.calls kj3 _ _ t274 _ _ t294 true _ ?side1 ?side2 ?side3 ?side4 A55.out).mono ?_);(case side1 => repeat (first | exact (Kd.R_reads' HO277.out).2.2 | (with_reducible refine Kd.C_alloc ?_ _) | (with_reducible refine Kd.C_drewN ?_ _) | (with_reducible refine Kd.C_drew ?_)));(case side2 => exact (Kd.R_reads' HO277.out).2.1);(case side3 => repeat (first | exact (Kd.R_reads' HO296.out).2.2 | (with_reducible refine Kd.C_alloc ?_ _) | (with_reducible refine Kd.C_drewN ?_ _) | (with_reducible refine Kd.C_drew ?_)));(case side4 => exact (Kd.R_reads' HO296.out).2.1);rintro e w' ⟨rfl,⟨nd,rfl⟩⟩;refine ⟨_,rfl,?_⟩;obtain ⟨Ao111,co111,eo111⟩ := Kd.R_slice HO281.out;subst eo111;obtain ⟨Ao112,co112,eo112⟩ := Kd.R_slice HO299.out;subst eo112) | (go_at_call 33;(with_reducible refine (steelyardkeep_Tree.calls kj3 _ _ t278 _ _ t297 true _ ?side1 ?side2 ?side3 ?side4 A60.out).mono ?_);(case side1 => repeat (first | exact (Kd.R_reads' HO281.out).2.2 | (with_reducible refine Kd.C_alloc ?_ _) | (with_reducible refine Kd.C_drewN ?_ _) | (with_reducible refine Kd.C_drew ?_)));(case side2 => exact (Kd.R_reads' HO281.out).2.1);(case side3 => repeat (first | exact (Kd.R_reads' HO299.out).2.2 | (with_reducible refine Kd.C_alloc ?_ _) | (with_reducible refine Kd.C_drewN ?_ _) | (with_reducible refine Kd.C_drew ?_)));(case side4 => exact (Kd.R_reads' HO299.out).2.1);rintro e w' ⟨rfl,⟨nd,rfl⟩⟩;obtain ⟨Ao113,co113,eo113⟩ := Kd.R_slice HO285.out;subst eo113;obtain ⟨Ao114,co114,eo114⟩ := Kd.R_slice HO302.out;subst eo114) | (go_at_call 33;(with_reducible refine (steelyardkeep_Tree.calls kj3 _ _ t282 _ _ t300 true _ ?side1 ?side2 ?side3 ?side4 A67.out).mono ?_);(case side1 => repeat (first | exact (Kd.R_reads' HO285.out).2.2 | (with_reducible refine Kd.C_alloc ?_ _) | (with_reducible refine Kd.C_drewN ?_ _) | (with_reducible refine Kd.C_drew ?_)));(case side2 => exact (Kd.R_reads' HO285.out).2.1);(case side3 => repeat (first | exact (Kd.R_reads' HO302.out).2.2 | (with_reducible refine Kd.C_alloc ?_ _) | (with_reducible refine Kd.C_drewN ?_ _) | (with_reducible refine Kd.C_drew ?_)));(case side4 => exact (Kd.R_reads' HO302.out).2.1);rintro e w' ⟨rfl,⟨nd,rfl⟩⟩;obtain ⟨Ao115,co115,eo115⟩ := Kd.R_slice HO289.out;subst eo115;obtain ⟨Ao116,co116,eo116⟩ := Kd.R_slice HO305.out;subst eo116) | (go_at_call 33;(with_reducible refine (steelyardkeep_Tree.calls kj3 _ _ t286 _ _ t303 false _ ?side1 ?side2 ?side3 ?side4 A76.out).mono ?_);(case side1 => repeat (first | exact (Kd.R_reads' HO289.out).2.2 | (with_reducible refine Kd.C_alloc ?_ _) | (with_reducible refine Kd.C_drewN ?_ _) | (with_reducible refine Kd.C_drew ?_)));(case side2 => exact (Kd.R_reads' HO289.out).2.1);(case side3 => repeat (first | exact (Kd.R_reads' HO305.out).2.2 | (with_reducible refine Kd.C_alloc ?_ _) | (with_reducible refine Kd.C_drewN ?_ _) | (with_reducible refine Kd.C_drew ?_)));(case side4 => exact (Kd.R_reads' HO305.out).2.1);rintro e w' ⟨rfl,⟨nd,rfl⟩⟩))
            go_meet
            case rel => exact ⟨_,(true),(by first | rfl | (simp;done) | (simp [*];done) | (simp [*];cases t291 <;> simp;done)),H',⟨by have := HJ3.out;first | omega | exact Nat.le_refl _⟩,⟨by (with_reducible repeat (first | apply Kd.R_alloc | apply Kd.R_drewN | apply Kd.R_drew));exact Kd.R_mono HO270.out (fun _ hk => hk.1.1.1.1.1.1.1.1.1.1.2)⟩,⟨by (with_reducible repeat (first | apply Kd.R_alloc | apply Kd.R_drewN | apply Kd.R_drew));exact Kd.R_mono HO273.out (fun _ hk => hk.1.1.1.1.1.1.1.1.1.1.2)⟩,⟨by (with_reducible repeat (first | refine blk_drewN ?_ _ | refine blk_drew ?_ | refine blk_alloc ?_ _));exact BK264.out⟩,⟨by repeat (first | (with_reducible first | exact HB.out | apply below_alloc | apply pw_below_drewN | apply below_drew1 | refine below_set ?_ GE264.out) | exact HB.out)⟩⟩
         ·replace c68 := Bool.eq_false_iff.mpr c68
          subst c68
          have H1 : (steelyardlaw14_TreeTells.j1 kj3 l0 l1 t268 t271 true) = some r := by rw [if_neg (show ¬ (false = true) by decide)] at H;exact H
          clear H
          have H := H1
          clear H1
          have H' := Aside0.mk H
          clear H
          obtain ⟨Ao117,co117,eo117⟩ := Kd.R_slice HO277.out
          subst eo117
          obtain ⟨Ao118,co118,eo118⟩ := Kd.R_slice HO296.out
          subst eo118
          go_wp2_with (first | ((with_reducible refine gate_callee (f := 33) rfl ?_);refine goesL_ (some 106) rfl rfl Tryd.func33 (by kernel_rfl) rfl #[.slice Ao117 t274.length co117,.slice Ao118 t294.length co118] rfl (by (try simp only [List.map_toArray,List.map_cons,List.map_nil]);first | done | rfl | (simp only [List.length_drop,List.length_take];rfl)) ?_;(with_reducible refine (steelyardkeep_Tree.calls kj3 _ _ t274 _ _ t294 true _ ?side1 ?side2 ?side3 ?side4 A55.out).mono ?_);(case side1 => repeat (first | exact (Kd.R_reads' HO277.out).2.2 | (with_reducible refine Kd.C_alloc ?_ _) | (with_reducible refine Kd.C_drewN ?_ _) | (with_reducible refine Kd.C_drew ?_)));(case side2 => exact (Kd.R_reads' HO277.out).2.1);(case side3 => repeat (first | exact (Kd.R_reads' HO296.out).2.2 | (with_reducible refine Kd.C_alloc ?_ _) | (with_reducible refine Kd.C_drewN ?_ _) | (with_reducible refine Kd.C_drew ?_)));(case side4 => exact (Kd.R_reads' HO296.out).2.1);rintro e w' ⟨rfl,⟨nd,rfl⟩⟩;refine ⟨_,rfl,?_⟩;obtain ⟨Ao119,co119,eo119⟩ := Kd.R_slice HO281.out;subst eo119;obtain ⟨Ao120,co120,eo120⟩ := Kd.R_slice HO299.out;subst eo120) | (go_at_call 33;(with_reducible refine (steelyardkeep_Tree.calls kj3 _ _ t278 _ _ t297 true _ ?side1 ?side2 ?side3 ?side4 A60.out).mono ?_);(case side1 => repeat (first | exact (Kd.R_reads' HO281.out).2.2 | (with_reducible refine Kd.C_alloc ?_ _) | (with_reducible refine Kd.C_drewN ?_ _) | (with_reducible refine Kd.C_drew ?_)));(case side2 => exact (Kd.R_reads' HO281.out).2.1);(case side3 => repeat (first | exact (Kd.R_reads' HO299.out).2.2 | (with_reducible refine Kd.C_alloc ?_ _) | (with_reducible refine Kd.C_drewN ?_ _) | (with_reducible refine Kd.C_drew ?_)));(case side4 => exact (Kd.R_reads' HO299.out).2.1);rintro e w' ⟨rfl,⟨nd,rfl⟩⟩;obtain ⟨Ao121,co121,eo121⟩ := Kd.R_slice HO285.out;subst eo121;obtain ⟨Ao122,co122,eo122⟩ := Kd.R_slice HO302.out;subst eo122) | (go_at_call 33;(with_reducible refine (steelyardkeep_Tree.calls kj3 _ _ t282 _ _ t300 false _ ?side1 ?side2 ?side3 ?side4 A67.out).mono ?_);(case side1 => repeat (first | exact (Kd.R_reads' HO285.out).2.2 | (with_reducible refine Kd.C_alloc ?_ _) | (with_reducible refine Kd.C_drewN ?_ _) | (with_reducible refine Kd.C_drew ?_)));(case side2 => exact (Kd.R_reads' HO285.out).2.1);(case side3 => repeat (first | exact (Kd.R_reads' HO302.out).2.2 | (with_reducible refine Kd.C_alloc ?_ _) | (with_reducible refine Kd.C_drewN ?_ _) | (with_reducible refine Kd.C_drew ?_)));(case side4 => exact (Kd.R_reads' HO302.out).2.1);rintro e w' ⟨rfl,⟨nd,rfl⟩⟩))
          go_meet
          case rel => exact ⟨_,(true),(by first | rfl | (simp;done) | (simp [*];done) | (simp [*];cases t291 <;> simp;done)),H',⟨by have := HJ3.out;first | omega | exact Nat.le_refl _⟩,⟨by (with_reducible repeat (first | apply Kd.R_alloc | apply Kd.R_drewN | apply Kd.R_drew));exact Kd.R_mono HO270.out (fun _ hk => hk.1.1.1.1.1.1.1.1.1.1.2)⟩,⟨by (with_reducible repeat (first | apply Kd.R_alloc | apply Kd.R_drewN | apply Kd.R_drew));exact Kd.R_mono HO273.out (fun _ hk => hk.1.1.1.1.1.1.1.1.1.1.2)⟩,⟨by (with_reducible repeat (first | refine blk_drewN ?_ _ | refine blk_drew ?_ | refine blk_alloc ?_ _));exact BK264.out⟩,⟨by repeat (first | (with_reducible first | exact HB.out | apply below_alloc | apply pw_below_drewN | apply below_drew1 | refine below_set ?_ GE264.out) | exact HB.out)⟩⟩
       ·replace c61 := Bool.eq_false_iff.mpr c61
        subst c61
        have H1 : (steelyardlaw14_TreeTells.j1 kj3 l0 l1 t268 t271 true) = some r := by rw [if_neg (show ¬ (false = true) by decide)] at H;exact H
        clear H
        have H := H1
        clear H1
        have H' := Aside0.mk H
        clear H
        obtain ⟨Ao123,co123,eo123⟩ := Kd.R_slice HO277.out
        subst eo123
        obtain ⟨Ao124,co124,eo124⟩ := Kd.R_slice HO296.out
        subst eo124
        go_wp2_with (first | ((with_reducible refine gate_callee (f := 33) rfl ?_);refine goesL_ (some 106) rfl rfl Tryd.func33 (by kernel_rfl) rfl #[.slice Ao123 t274.length co123,.slice Ao124 t294.length co124] rfl (by (try simp only [List.map_toArray,List.map_cons,List.map_nil]);first | done | rfl | (simp only [List.length_drop,List.length_take];rfl)) ?_;(with_reducible refine (steelyardkeep_Tree.calls kj3 _ _ t274 _ _ t294 true _ ?side1 ?side2 ?side3 ?side4 A55.out).mono ?_);(case side1 => repeat (first | exact (Kd.R_reads' HO277.out).2.2 | (with_reducible refine Kd.C_alloc ?_ _) | (with_reducible refine Kd.C_drewN ?_ _) | (with_reducible refine Kd.C_drew ?_)));(case side2 => exact (Kd.R_reads' HO277.out).2.1);(case side3 => repeat (first | exact (Kd.R_reads' HO296.out).2.2 | (with_reducible refine Kd.C_alloc ?_ _) | (with_reducible refine Kd.C_drewN ?_ _) | (with_reducible refine Kd.C_drew ?_)));(case side4 => exact (Kd.R_reads' HO296.out).2.1);rintro e w' ⟨rfl,⟨nd,rfl⟩⟩;refine ⟨_,rfl,?_⟩;obtain ⟨Ao125,co125,eo125⟩ := Kd.R_slice HO281.out;subst eo125;obtain ⟨Ao126,co126,eo126⟩ := Kd.R_slice HO299.out;subst eo126) | (go_at_call 33;(with_reducible refine (steelyardkeep_Tree.calls kj3 _ _ t278 _ _ t297 false _ ?side1 ?side2 ?side3 ?side4 A60.out).mono ?_);(case side1 => repeat (first | exact (Kd.R_reads' HO281.out).2.2 | (with_reducible refine Kd.C_alloc ?_ _) | (with_reducible refine Kd.C_drewN ?_ _) | (with_reducible refine Kd.C_drew ?_)));(case side2 => exact (Kd.R_reads' HO281.out).2.1);(case side3 => repeat (first | exact (Kd.R_reads' HO299.out).2.2 | (with_reducible refine Kd.C_alloc ?_ _) | (with_reducible refine Kd.C_drewN ?_ _) | (with_reducible refine Kd.C_drew ?_)));(case side4 => exact (Kd.R_reads' HO299.out).2.1);rintro e w' ⟨rfl,⟨nd,rfl⟩⟩))
        go_meet
        case rel => exact ⟨_,(true),(by first | rfl | (simp;done) | (simp [*];done) | (simp [*];cases t291 <;> simp;done)),H',⟨by have := HJ3.out;first | omega | exact Nat.le_refl _⟩,⟨by (with_reducible repeat (first | apply Kd.R_alloc | apply Kd.R_drewN | apply Kd.R_drew));exact Kd.R_mono HO270.out (fun _ hk => hk.1.1.1.1.1.1.1.1.1.1.2)⟩,⟨by (with_reducible repeat (first | apply Kd.R_alloc | apply Kd.R_drewN | apply Kd.R_drew));exact Kd.R_mono HO273.out (fun _ hk => hk.1.1.1.1.1.1.1.1.1.1.2)⟩,⟨by (with_reducible repeat (first | refine blk_drewN ?_ _ | refine blk_drew ?_ | refine blk_alloc ?_ _));exact BK264.out⟩,⟨by repeat (first | (with_reducible first | exact HB.out | apply below_alloc | apply pw_below_drewN | apply below_drew1 | refine below_set ?_ GE264.out) | exact HB.out)⟩⟩
     ·replace c56 := Bool.eq_false_iff.mpr c56
      subst c56
      have H1 : (steelyardlaw14_TreeTells.j1 kj3 l0 l1 t268 t271 true) = some r := by rw [if_neg (show ¬ (false = true) by decide)] at H;exact H
      clear H
      have H := H1
      clear H1
      have H' := Aside0.mk H
      clear H
      obtain ⟨Ao127,co127,eo127⟩ := Kd.R_slice HO277.out
      subst eo127
      obtain ⟨Ao128,co128,eo128⟩ := Kd.R_slice HO296.out
      subst eo128
      go_wp2_with (first | ((with_reducible refine gate_callee (f := 33) rfl ?_);refine goesL_ (some 106) rfl rfl Tryd.func33 (by kernel_rfl) rfl #[.slice Ao127 t274.length co127,.slice Ao128 t294.length co128] rfl (by (try simp only [List.map_toArray,List.map_cons,List.map_nil]);first | done | rfl | (simp only [List.length_drop,List.length_take];rfl)) ?_;(with_reducible refine (steelyardkeep_Tree.calls kj3 _ _ t274 _ _ t294 false _ ?side1 ?side2 ?side3 ?side4 A55.out).mono ?_);(case side1 => repeat (first | exact (Kd.R_reads' HO277.out).2.2 | (with_reducible refine Kd.C_alloc ?_ _) | (with_reducible refine Kd.C_drewN ?_ _) | (with_reducible refine Kd.C_drew ?_)));(case side2 => exact (Kd.R_reads' HO277.out).2.1);(case side3 => repeat (first | exact (Kd.R_reads' HO296.out).2.2 | (with_reducible refine Kd.C_alloc ?_ _) | (with_reducible refine Kd.C_drewN ?_ _) | (with_reducible refine Kd.C_drew ?_)));(case side4 => exact (Kd.R_reads' HO296.out).2.1);rintro e w' ⟨rfl,⟨nd,rfl⟩⟩;refine ⟨_,rfl,?_⟩))
      go_meet
      case rel => exact ⟨_,(true),(by first | rfl | (simp;done) | (simp [*];done) | (simp [*];cases t291 <;> simp;done)),H',⟨by have := HJ3.out;first | omega | exact Nat.le_refl _⟩,⟨by (with_reducible repeat (first | apply Kd.R_alloc | apply Kd.R_drewN | apply Kd.R_drew));exact Kd.R_mono HO270.out (fun _ hk => hk.1.1.1.1.1.1.1.1.1.1.2)⟩,⟨by (with_reducible repeat (first | apply Kd.R_alloc | apply Kd.R_drewN | apply Kd.R_drew));exact Kd.R_mono HO273.out (fun _ hk => hk.1.1.1.1.1.1.1.1.1.1.2)⟩,⟨by (with_reducible repeat (first | refine blk_drewN ?_ _ | refine blk_drew ?_ | refine blk_alloc ?_ _));exact BK264.out⟩,⟨by repeat (first | (with_reducible first | exact HB.out | apply below_alloc | apply pw_below_drewN | apply below_drew1 | refine below_set ?_ GE264.out) | exact HB.out)⟩⟩
    case rest =>
     clear HC35
     try clear c1
     try clear p2
     try clear c3
     try clear c5
     try clear c6
     try clear c7
     try clear c8
     try clear c30
     try clear c31
     try clear c32
     try clear c33
     try clear c56
     try clear c57
     try clear c57b0
     try clear c57b1
     try clear c57b2
     try clear c61
     try clear c62
     try clear c62b0
     try clear c62b1
     try clear c62b2
     try clear c68
     try clear c69
     try clear c69b0
     try clear c69b1
     try clear c69b2
     try clear c77
     try clear c78
     try clear c78b0
     try clear c78b1
     try clear c78b2
     try clear c88
     obtain ⟨kq,x166_34,rfl,HA,HJ34,HO_7,HO_8,BK264,HB⟩ := hcut
     cases kq with
     | zero => exact absurd HA.out (by simp [steelyardlaw14_TreeTells.j1])
     | succ kj34 =>
      have H := HA.out
      clear HA
      simp only [steelyardlaw14_TreeTells.j1] at H
      by_cases c129 : x166_34 = true
      ·subst c129
       have H1 : (some false) = some r := by rw [if_pos rfl] at H;exact H
       clear H
       have H := H1
       clear H1
       obtain rfl := Option.some.inj H
       go_wp2
       go_ret
       exact ⟨by first | rfl | (simp [errW_none,errW_some] <;> rfl) | (simp [*,errW_none,errW_some] <;> rfl),by repeat (first | (with_reducible first | exact HB.out | apply below_alloc | apply pw_below_drewN | apply below_drew1 | refine below_set ?_ GE264.out) | exact HB.out)⟩
      ·replace c129 := Bool.eq_false_iff.mpr c129
       subst c129
       have H1 : ((steelyardref14_Good.f l0).bind fun t314 => (if t314 = true then ((steelyardref14_Deeps.f kj34 l0).bind fun t315 => (if 0 ≤ (wrap64 ((t315.length : Int) - 1)) then (if (wrap64 ((t315.length : Int) - 1)) < (t315.length : Int) then (steelyardlaw14_TreeTells.j2 kj34 l0 l1 t268 t271 (rd t315 (wrap64 ((t315.length : Int) - 1)))) else (none)) else (none))) else (steelyardlaw14_TreeTells.j2 kj34 l0 l1 t268 t271 0))) = some r := by rw [if_neg (show ¬ (false = true) by decide)] at H;exact H
       clear H
       have H := H1
       clear H1
       replace H := Option.bind_eq_some_iff.mp H
       obtain ⟨t314,A1300,H⟩ := H
       replace H : (if t314 = true then ((steelyardref14_Deeps.f kj34 l0).bind fun t315 => (if 0 ≤ (wrap64 ((t315.length : Int) - 1)) then (if (wrap64 ((t315.length : Int) - 1)) < (t315.length : Int) then (steelyardlaw14_TreeTells.j2 kj34 l0 l1 t268 t271 (rd t315 (wrap64 ((t315.length : Int) - 1)))) else (none)) else (none))) else (steelyardlaw14_TreeTells.j2 kj34 l0 l1 t268 t271 0)) = some r := H
       have A130 := Aside0.mk A1300
       clear A1300
       have HC131 := Aside0.mk H
       clear H
       go_upto_if 168 with (first | ((with_reducible refine gate_callee (f := 34) rfl ?_);refine goesL_ (some 168) rfl rfl Tryd.func34 (by kernel_rfl) rfl #[.slice A0 l0.length c0] rfl (by (try simp only [List.map_toArray,List.map_cons,List.map_nil]);first | done | rfl | (simp only [List.length_drop,List.length_take];rfl)) ?_;(with_reducible refine (steelyardref14_Good.calls _ _ l0 t314 _ ?side1 ?side2 A130.out).mono ?_);(case side1 => repeat (first | exact (Kd.C_below HR0.out HB.out) | (with_reducible refine Kd.C_alloc ?_ _) | (with_reducible refine Kd.C_drewN ?_ _) | (with_reducible refine Kd.C_drew ?_)));(case side2 => exact HC0.out);rintro e w132 ⟨rfl,hb⟩;refine ⟨_,rfl,?_⟩;have n0_ := Aside0.mk (Kd.R_below (by (with_reducible repeat (first | apply Kd.R_alloc | apply Kd.R_drewN | apply Kd.R_drew));exact HO_7.out) hb);have n1_ := Aside0.mk (Kd.R_below (by (with_reducible repeat (first | apply Kd.R_alloc | apply Kd.R_drewN | apply Kd.R_drew));exact HO_8.out) hb);have n2_ := Aside0.mk (blk_below (g := gb264) (o := .cells #[.string a2_0,.string a2_1,.int .i64 a2_2,.int .i64 a2_3] 41 (0,0)) (by (with_reducible repeat (first | refine blk_drewN ?_ _ | refine blk_drew ?_ | refine blk_alloc ?_ _));exact BK264.out) hb);have n3_ := Aside0.mk (below_step (by repeat (first | (with_reducible first | exact HB.out | apply below_alloc | apply pw_below_drewN | apply below_drew1 | refine below_set ?_ GE264.out) | exact HB.out)) hb);clear HO_7;clear HO_8;clear BK264;clear HB;have HO_7 := n0_;have HO_8 := n1_;have BK264 := n2_;have HB := n3_;clear n0_ n1_ n2_ n3_;(try clear hb);(try clear hb2);(try clear hk);(try clear hi)))
       (try simp only [Act.put,zYGTree7a,zYGTree7b,zYGTree7c])
       go_cut [24] (fun v24 wc => ∃ (kq : Nat) (x24_130 : Int),v24 = .int .i64 x24_130 ∧ Aside0 (steelyardlaw14_TreeTells.j2 kq l0 l1 t268 t271 x24_130 = some r) ∧ Aside0 (kq ≤ kj34) ∧ Aside0 (Kd.R k52 52 wc w.heap.size (fun k_ => some k_ ≠ ((.slice Ao44 t271.length co44) : Value).ownBlock) (.slice Ao43 t268.length co43) t268) ∧ Aside0 (Kd.R k52 52 wc w.heap.size (fun k_ => some k_ ≠ ((.slice Ao43 t268.length co43) : Value).ownBlock) (.slice Ao44 t271.length co44) t271) ∧ Aside0 (wc.heap[gb264]? = some (.cells #[.string a2_0,.string a2_1,.int .i64 a2_2,.int .i64 a2_3] 41 (0,0))) ∧ Aside0 (Below w.heap.size w wc))
       case first => as_aux_lemma =>
        have H := HC131.out
        clear HC131
        by_cases c133 : t314 = true
        ·subst c133
         have H1 : ((steelyardref14_Deeps.f kj34 l0).bind fun t315 => (if 0 ≤ (wrap64 ((t315.length : Int) - 1)) then (if (wrap64 ((t315.length : Int) - 1)) < (t315.length : Int) then (steelyardlaw14_TreeTells.j2 kj34 l0 l1 t268 t271 (rd t315 (wrap64 ((t315.length : Int) - 1)))) else (none)) else (none))) = some r := by rw [if_pos rfl] at H;exact H
         clear H
         have H := H1
         clear H1
         replace H := Option.bind_eq_some_iff.mp H
         obtain ⟨t315,A1340,H⟩ := H
         replace H : (if 0 ≤ (wrap64 ((t315.length : Int) - 1)) then (if (wrap64 ((t315.length : Int) - 1)) < (t315.length : Int) then (steelyardlaw14_TreeTells.j2 kj34 l0 l1 t268 t271 (rd t315 (wrap64 ((t315.length : Int) - 1)))) else (none)) else (none)) = some r := H
         have A134 := Aside0.mk A1340
         clear A1340
         obtain ⟨ji135,hji135⟩ : ∃ j_ : Int,(wrap64 ((t315.length : Int) - 1)) = j_ := ⟨_,rfl⟩
         replace H : (if 0 ≤ (ji135) then (if (ji135) < (t315.length : Int) then (steelyardlaw14_TreeTells.j2 kj34 l0 l1 t268 t271 (rd t315 (ji135))) else (none)) else (none)) = some r := by first | (rw [hji135] at H;exact H) | (simp only [hji135] at H ⊢;exact H)
         (try rw [hji135] at A134)
         have hji135w : (IntKind.i64.wrap ((t315.length : Int) - 1)) = ji135 := (i64_w _).trans hji135
         by_cases c136 : 0 ≤ (ji135)
         ·rw [if_pos c136] at H
          have c136b0 : decide (0 ≤ (ji135)) = true := decide_eq_true c136
          clear c136
          (first | rw [c136b0] | (simp only [i64_w,i32_w];rw [c136b0]) | skip)
          by_cases c137 : (ji135) < (t315.length : Int)
          ·rw [if_pos c137] at H
           have c137b0 : decide ((ji135) < (t315.length : Int)) = true := decide_eq_true c137
           clear c137
           have H' := Aside0.mk H
           clear H
           go_wp2_with (first | ((with_reducible refine gate_callee (f := 35) rfl ?_);refine goesL_ (some 170) rfl rfl Tryd.func35 (by kernel_rfl) rfl #[.slice A0 l0.length c0] rfl (by (try simp only [List.map_toArray,List.map_cons,List.map_nil]);first | done | rfl | (simp only [List.length_drop,List.length_take];rfl)) ?_;(with_reducible refine (steelyardref14_Deeps.calls kj34 _ _ l0 t315 _ ?side1 ?side2 A134.out).mono ?_);(case side1 => repeat (first | exact (Kd.C_below HR0.out HB.out) | (with_reducible refine Kd.C_alloc ?_ _) | (with_reducible refine Kd.C_drewN ?_ _) | (with_reducible refine Kd.C_drew ?_)));(case side2 => exact HC0.out);rintro e w138 ⟨v316,rfl,ho0,hb⟩;refine ⟨_,rfl,?_⟩;have n0_ := Aside0.mk (Kd.R_below (by (with_reducible repeat (first | apply Kd.R_alloc | apply Kd.R_drewN | apply Kd.R_drew));exact HO_7.out) hb);have n1_ := Aside0.mk (Kd.R_below (by (with_reducible repeat (first | apply Kd.R_alloc | apply Kd.R_drewN | apply Kd.R_drew));exact HO_8.out) hb);have n2_ := Aside0.mk (Kd.R_lower ho0 (below_size (by repeat (first | (with_reducible first | exact HB.out | apply below_alloc | apply pw_below_drewN | apply below_drew1 | refine below_set ?_ GE264.out) | exact HB.out))));have n3_ := Aside0.mk (blk_below (g := gb264) (o := .cells #[.string a2_0,.string a2_1,.int .i64 a2_2,.int .i64 a2_3] 41 (0,0)) (by (with_reducible repeat (first | refine blk_drewN ?_ _ | refine blk_drew ?_ | refine blk_alloc ?_ _));exact BK264.out) hb);have n4_ := Aside0.mk (below_step (by repeat (first | (with_reducible first | exact HB.out | apply below_alloc | apply pw_below_drewN | apply below_drew1 | refine below_set ?_ GE264.out) | exact HB.out)) hb);clear HO_7;clear HO_8;clear BK264;clear HB;have HO_7 := n0_;have HO_8 := n1_;have HO317 := n2_;have BK264 := n3_;have HB := n4_;clear n0_ n1_ n2_ n3_ n4_;(try clear hb);(try clear hb2);(try clear hk);(try clear hi);(try clear ho0);obtain ⟨Ao139,co139,eo139⟩ := Kd.R_slice HO317.out;subst eo139;have p318 : 0 ≤ ((ji135) : Int) := of_decide_eq_true (by first | (with_reducible assumption) | assumption);have q318 : (ji135) < (t315.length : Int) := of_decide_eq_true (by first | (with_reducible assumption) | assumption);obtain ⟨ad318,e318,hx318_0⟩ := Kd.at_int (Kd.R_reads' HO317.out).2.2 (ji135) p318 q318;cases e318;replace p318 := eq_true p318;replace q318 := eq_true q318))
           go_meet
           case rel => exact ⟨_,(rd t315 (ji135)),(by first | rfl | (simp;done) | (simp only [← hji135] <;> (first | rfl | (simp;done))) | (simp only [hji135];first | rfl | (simp [*];done) | (simp_all;done)) | (simp [*];done)),(by first | exact H' | (rw [hji135];exact H') | (simp only [hji135];exact H')),⟨by have := HJ3.out;have := HJ34.out;first | omega | exact Nat.le_refl _⟩,⟨by (with_reducible repeat (first | apply Kd.R_alloc | apply Kd.R_drewN | apply Kd.R_drew));exact HO_7.out⟩,⟨by (with_reducible repeat (first | apply Kd.R_alloc | apply Kd.R_drewN | apply Kd.R_drew));exact HO_8.out⟩,⟨by (with_reducible repeat (first | refine blk_drewN ?_ _ | refine blk_drew ?_ | refine blk_alloc ?_ _));exact BK264.out⟩,⟨by repeat (first | (with_reducible first | exact HB.out | apply below_alloc | apply pw_below_drewN | apply below_drew1 | refine below_set ?_ GE264.out) | exact HB.out)⟩⟩
          ·rw [if_neg c137] at H
           exact absurd H (by simp)
         ·rw [if_neg c136] at H
          exact absurd H (by simp)
        ·replace c133 := Bool.eq_false_iff.mpr c133
         subst c133
         have H1 : (steelyardlaw14_TreeTells.j2 kj34 l0 l1 t268 t271 0) = some r := by rw [if_neg (show ¬ (false = true) by decide)] at H;exact H
         clear H
         have H := H1
         clear H1
         have H' := Aside0.mk H
         clear H
         go_wp2
         go_meet
         case rel => exact ⟨_,(0),(by first | rfl | (simp;done) | (simp [*];done) | (simp [*];cases t291 <;> simp;done)),H',⟨by have := HJ3.out;have := HJ34.out;first | omega | exact Nat.le_refl _⟩,⟨by (with_reducible repeat (first | apply Kd.R_alloc | apply Kd.R_drewN | apply Kd.R_drew));exact HO_7.out⟩,⟨by (with_reducible repeat (first | apply Kd.R_alloc | apply Kd.R_drewN | apply Kd.R_drew));exact HO_8.out⟩,⟨by (with_reducible repeat (first | refine blk_drewN ?_ _ | refine blk_drew ?_ | refine blk_alloc ?_ _));exact BK264.out⟩,⟨by repeat (first | (with_reducible first | exact HB.out | apply below_alloc | apply pw_below_drewN | apply below_drew1 | refine below_set ?_ GE264.out) | exact HB.out)⟩⟩
       case rest =>
        clear HC131
        try clear c1
        try clear p2
        try clear c3
        try clear p3
        try clear q3
        try clear hx3
        try clear c5
        try clear c6
        try clear p6
        try clear c7
        try clear c8
        try clear c12
        try clear c13
        try clear c30
        try clear c31
        try clear p31
        try clear q31
        try clear hx31
        try clear c32
        try clear c33
        try clear c34
        try clear c35
        try clear c56
        try clear c57
        try clear c57b0
        try clear c57b1
        try clear c57b2
        try clear c61
        try clear c62
        try clear c62b0
        try clear c62b1
        try clear c62b2
        try clear p64
        try clear c68
        try clear c69
        try clear c69b0
        try clear c69b1
        try clear c69b2
        try clear c77
        try clear c78
        try clear c78b0
        try clear c78b1
        try clear c78b2
        try clear c88
        try clear c129
        try clear c133
        try clear c136
        try clear c136b0
        try clear c137
        try clear c137b0
        try clear hx318_0
        try clear p2
        try clear p318
        try clear q318
        obtain ⟨kq,x24_130,rfl,HA,HJ130,HO_7,HO_8,BK264,HB⟩ := hcut
        cases kq with
        | zero => exact absurd HA.out (by simp [steelyardlaw14_TreeTells.j2])
        | succ kj130 =>
         have H := HA.out
         clear HA
         simp only [steelyardlaw14_TreeTells.j2] at H
         replace H := Option.bind_eq_some_iff.mp H
         obtain ⟨t319,A1400,H⟩ := H
         replace H : ((steelyardref14_Good.f l0).bind fun t320 => (if (t319 == t320) = true then ((tree_Deep.f kj130 t268).bind fun t321 => (if t321 = x24_130 then ((tree_Same.f t268 t271).bind fun t322 => ((steelyardkeep_Bare.f kj130 l0).bind fun t323 => ((steelyardkeep_Bare.f kj130 l1).bind fun t326 => ((steelyardkeep_Tree.f kj130 t323 t326).bind fun t329 => (if (t322 == t329) = true then ((steelyardkeep_Tree.f kj130 t268 l0).bind fun t330 => (if t330 = true then ((steelyardkeep_Tree.f kj130 t271 l1).bind fun t331 => (if t331 = true then ((steelyardlaw14_wakes.f).bind fun t332 => (some t332)) else (some false))) else (some false))) else (some false)))))) else (some false))) else (some false))) = some r := H
         have A140 := Aside0.mk A1400
         clear A1400
         replace H := Option.bind_eq_some_iff.mp H
         obtain ⟨t320,A1410,H⟩ := H
         replace H : (if (t319 == t320) = true then ((tree_Deep.f kj130 t268).bind fun t321 => (if t321 = x24_130 then ((tree_Same.f t268 t271).bind fun t322 => ((steelyardkeep_Bare.f kj130 l0).bind fun t323 => ((steelyardkeep_Bare.f kj130 l1).bind fun t326 => ((steelyardkeep_Tree.f kj130 t323 t326).bind fun t329 => (if (t322 == t329) = true then ((steelyardkeep_Tree.f kj130 t268 l0).bind fun t330 => (if t330 = true then ((steelyardkeep_Tree.f kj130 t271 l1).bind fun t331 => (if t331 = true then ((steelyardlaw14_wakes.f).bind fun t332 => (some t332)) else (some false))) else (some false))) else (some false)))))) else (some false))) else (some false)) = some r := H
         have A141 := Aside0.mk A1410
         clear A1410
         by_cases c142 : (t319 == t320) = true
         ·rw [if_pos c142] at H
          have c142b0 : (t319 == t320) = true := c142
          (try (have c142b1 : decide (t319 = t320) = true := by simpa using c142))
          (try (have c142b2 : (t319 == t320) = true := by simpa using c142))
          clear c142
          replace H := Option.bind_eq_some_iff.mp H
          obtain ⟨t321,A1430,H⟩ := H
          replace H : (if t321 = x24_130 then ((tree_Same.f t268 t271).bind fun t322 => ((steelyardkeep_Bare.f kj130 l0).bind fun t323 => ((steelyardkeep_Bare.f kj130 l1).bind fun t326 => ((steelyardkeep_Tree.f kj130 t323 t326).bind fun t329 => (if (t322 == t329) = true then ((steelyardkeep_Tree.f kj130 t268 l0).bind fun t330 => (if t330 = true then ((steelyardkeep_Tree.f kj130 t271 l1).bind fun t331 => (if t331 = true then ((steelyardlaw14_wakes.f).bind fun t332 => (some t332)) else (some false))) else (some false))) else (some false)))))) else (some false)) = some r := H
          have A143 := Aside0.mk A1430
          clear A1430
          by_cases c144 : t321 = x24_130
          ·rw [if_pos c144] at H
           have c144b0 : (t321 == x24_130) = true := beq_iff_eq.mpr c144
           have c144b1 : (t321 != x24_130) = false := bne_eq_false_iff_eq.mpr c144
           clear c144
           replace H := Option.bind_eq_some_iff.mp H
           obtain ⟨t322,A1450,H⟩ := H
           replace H : ((steelyardkeep_Bare.f kj130 l0).bind fun t323 => ((steelyardkeep_Bare.f kj130 l1).bind fun t326 => ((steelyardkeep_Tree.f kj130 t323 t326).bind fun t329 => (if (t322 == t329) = true then ((steelyardkeep_Tree.f kj130 t268 l0).bind fun t330 => (if t330 = true then ((steelyardkeep_Tree.f kj130 t271 l1).bind fun t331 => (if t331 = true then ((steelyardlaw14_wakes.f).bind fun t332 => (some t332)) else (some false))) else (some false))) else (some false))))) = some r := H
           have A145 := Aside0.mk A1450
           clear A1450
           replace H := Option.bind_eq_some_iff.mp H
           obtain ⟨t323,A1460,H⟩ := H
           replace H : ((steelyardkeep_Bare.f kj130 l1).bind fun t326 => ((steelyardkeep_Tree.f kj130 t323 t326).bind fun t329 => (if (t322 == t329) = true then ((steelyardkeep_Tree.f kj130 t268 l0).bind fun t330 => (if t330 = true then ((steelyardkeep_Tree.f kj130 t271 l1).bind fun t331 => (if t331 = true then ((steelyardlaw14_wakes.f).bind fun t332 => (some t332)) else (some false))) else (some false))) else (some false)))) = some r := H
           have A146 := Aside0.mk A1460
           clear A1460
           replace H := Option.bind_eq_some_iff.mp H
           obtain ⟨t326,A1470,H⟩ := H
           replace H : ((steelyardkeep_Tree.f kj130 t323 t326).bind fun t329 => (if (t322 == t329) = true then ((steelyardkeep_Tree.f kj130 t268 l0).bind fun t330 => (if t330 = true then ((steelyardkeep_Tree.f kj130 t271 l1).bind fun t331 => (if t331 = true then ((steelyardlaw14_wakes.f).bind fun t332 => (some t332)) else (some false))) else (some false))) else (some false))) = some r := H
           have A147 := Aside0.mk A1470
           clear A1470
           replace H := Option.bind_eq_some_iff.mp H
           obtain ⟨t329,A1480,H⟩ := H
           replace H : (if (t322 == t329) = true then ((steelyardkeep_Tree.f kj130 t268 l0).bind fun t330 => (if t330 = true then ((steelyardkeep_Tree.f kj130 t271 l1).bind fun t331 => (if t331 = true then ((steelyardlaw14_wakes.f).bind fun t332 => (some t332)) else (some false))) else (some false))) else (some false)) = some r := H
           have A148 := Aside0.mk A1480
           clear A1480
           by_cases c149 : (t322 == t329) = true
           ·rw [if_pos c149] at H
            have c149b0 : (t322 == t329) = true := c149
            (try (have c149b1 : decide (t322 = t329) = true := by simpa using c149))
            (try (have c149b2 : (t322 == t329) = true := by simpa using c149))
            clear c149
            replace H := Option.bind_eq_some_iff.mp H
            obtain ⟨t330,A1500,H⟩ := H
            replace H : (if t330 = true then ((steelyardkeep_Tree.f kj130 t271 l1).bind fun t331 => (if t331 = true then ((steelyardlaw14_wakes.f).bind fun t332 => (some t332)) else (some false))) else (some false)) = some r := H
            have A150 := Aside0.mk A1500
            clear A1500
            by_cases c151 : t330 = true
            ·subst c151
             have H1 : ((steelyardkeep_Tree.f kj130 t271 l1).bind fun t331 => (if t331 = true then ((steelyardlaw14_wakes.f).bind fun t332 => (some t332)) else (some false))) = some r := by rw [if_pos rfl] at H;exact H
             clear H
             have H := H1
             clear H1
             replace H := Option.bind_eq_some_iff.mp H
             obtain ⟨t331,A1520,H⟩ := H
             replace H : (if t331 = true then ((steelyardlaw14_wakes.f).bind fun t332 => (some t332)) else (some false)) = some r := H
             have A152 := Aside0.mk A1520
             clear A1520
             by_cases c153 : t331 = true
             ·subst c153
              have H1 : ((steelyardlaw14_wakes.f).bind fun t332 => (some t332)) = some r := by rw [if_pos rfl] at H;exact H
              clear H
              have H := H1
              clear H1
              replace H := Option.bind_eq_some_iff.mp H
              obtain ⟨t332,A1540,H⟩ := H
              replace H : (some t332) = some r := H
              have A154 := Aside0.mk A1540
              clear A1540
              obtain rfl := Option.some.inj H
              go_wp2_with (first | ((with_reducible refine gate_callee (f := 36) rfl ?_);refine goesL_ (some 178) rfl rfl Tryd.func36 (by kernel_rfl) rfl #[.slice Ao43 t268.length co43] rfl (by (try simp only [List.map_toArray,List.map_cons,List.map_nil]);first | done | rfl | (simp only [List.length_drop,List.length_take];rfl)) ?_;(with_reducible refine (tree_Good.calls kj130 _ _ t268 t319 _ ?side1 ?side2 A140.out ?sideG_).mono ?_);(case sideG_ => (first | (with_reducible exact HG_.out) | exact HG_.out.below (by repeat (first | (with_reducible first | exact HB.out | apply below_alloc | apply pw_below_drewN | apply below_drew1 | refine below_set ?_ GE264.out) | exact HB.out))));(case side1 => repeat (first | exact (Kd.R_reads' HO_7.out).2.2 | (with_reducible refine Kd.C_alloc ?_ _) | (with_reducible refine Kd.C_drewN ?_ _) | (with_reducible refine Kd.C_drew ?_)));(case side2 => exact (Kd.R_reads' HO_7.out).2.1);rintro e w155 ⟨rfl,hb⟩;refine ⟨_,rfl,?_⟩;have n0_ := Aside0.mk (Kd.R_below (by (with_reducible repeat (first | apply Kd.R_alloc | apply Kd.R_drewN | apply Kd.R_drew));exact HO_7.out) hb);have n1_ := Aside0.mk (Kd.R_below (by (with_reducible repeat (first | apply Kd.R_alloc | apply Kd.R_drewN | apply Kd.R_drew));exact HO_8.out) hb);have n2_ := Aside0.mk (blk_below (g := gb264) (o := .cells #[.string a2_0,.string a2_1,.int .i64 a2_2,.int .i64 a2_3] 41 (0,0)) (by (with_reducible repeat (first | refine blk_drewN ?_ _ | refine blk_drew ?_ | refine blk_alloc ?_ _));exact BK264.out) hb);have n3_ := Aside0.mk (below_step (by repeat (first | (with_reducible first | exact HB.out | apply below_alloc | apply pw_below_drewN | apply below_drew1 | refine below_set ?_ GE264.out) | exact HB.out)) hb);clear HO_7;clear HO_8;clear BK264;clear HB;have HO_7 := n0_;have HO_8 := n1_;have BK264 := n2_;have HB := n3_;clear n0_ n1_ n2_ n3_;(try clear hb);(try clear hb2);(try clear hk);(try clear hi)) | ((with_reducible refine gate_callee (f := 34) rfl ?_);refine goesL_ (some 180) rfl rfl Tryd.func34 (by kernel_rfl) rfl #[.slice A0 l0.length c0] rfl (by (try simp only [List.map_toArray,List.map_cons,List.map_nil]);first | done | rfl | (simp only [List.length_drop,List.length_take];rfl)) ?_;(with_reducible refine (steelyardref14_Good.calls _ _ l0 t320 _ ?side1 ?side2 A141.out).mono ?_);(case side1 => repeat (first | exact (Kd.C_below HR0.out HB.out) | (with_reducible refine Kd.C_alloc ?_ _) | (with_reducible refine Kd.C_drewN ?_ _) | (with_reducible refine Kd.C_drew ?_)));(case side2 => exact HC0.out);rintro e w156 ⟨rfl,hb⟩;refine ⟨_,rfl,?_⟩;have n0_ := Aside0.mk (Kd.R_below (by (with_reducible repeat (first | apply Kd.R_alloc | apply Kd.R_drewN | apply Kd.R_drew));exact HO_7.out) hb);have n1_ := Aside0.mk (Kd.R_below (by (with_reducible repeat (first | apply Kd.R_alloc | apply Kd.R_drewN | apply Kd.R_drew));exact HO_8.out) hb);have n2_ := Aside0.mk (blk_below (g := gb264) (o := .cells #[.string a2_0,.string a2_1,.int .i64 a2_2,.int .i64 a2_3] 41 (0,0)) (by (with_reducible repeat (first | refine blk_drewN ?_ _ | refine blk_drew ?_ | refine blk_alloc ?_ _));exact BK264.out) hb);have n3_ := Aside0.mk (below_step (by repeat (first | (with_reducible first | exact HB.out | apply below_alloc | apply pw_below_drewN | apply below_drew1 | refine below_set ?_ GE264.out) | exact HB.out)) hb);clear HO_7;clear HO_8;clear BK264;clear HB;have HO_7 := n0_;have HO_8 := n1_;have BK264 := n2_;have HB := n3_;clear n0_ n1_ n2_ n3_;(try clear hb);(try clear hb2);(try clear hk);(try clear hi)) | (go_at_call 37;(with_reducible refine (tree_Deep.calls kj130 _ _ t268 t321 _ ?side1 ?side2 A143.out ?sideG_).mono ?_);(case sideG_ => (first | (with_reducible exact HG_.out) | exact HG_.out.below (by repeat (first | (with_reducible first | exact HB.out | apply below_alloc | apply pw_below_drewN | apply below_drew1 | refine below_set ?_ GE264.out) | exact HB.out))));(case side1 => repeat (first | exact (Kd.R_reads' HO_7.out).2.2 | (with_reducible refine Kd.C_alloc ?_ _) | (with_reducible refine Kd.C_drewN ?_ _) | (with_reducible refine Kd.C_drew ?_)));(case side2 => exact (Kd.R_reads' HO_7.out).2.1);rintro e w157 ⟨rfl,hb⟩;have n0_ := Aside0.mk (Kd.R_below (by (with_reducible repeat (first | apply Kd.R_alloc | apply Kd.R_drewN | apply Kd.R_drew));exact HO_7.out) hb);have n1_ := Aside0.mk (Kd.R_below (by (with_reducible repeat (first | apply Kd.R_alloc | apply Kd.R_drewN | apply Kd.R_drew));exact HO_8.out) hb);have n2_ := Aside0.mk (blk_below (g := gb264) (o := .cells #[.string a2_0,.string a2_1,.int .i64 a2_2,.int .i64 a2_3] 41 (0,0)) (by (with_reducible repeat (first | refine blk_drewN ?_ _ | refine blk_drew ?_ | refine blk_alloc ?_ _));exact BK264.out) hb);have n3_ := Aside0.mk (below_step (by repeat (first | (with_reducible first | exact HB.out | apply below_alloc | apply pw_below_drewN | apply below_drew1 | refine below_set ?_ GE264.out) | exact HB.out)) hb);clear HO_7;clear HO_8;clear BK264;clear HB;have HO_7 := n0_;have HO_8 := n1_;have BK264 := n2_;have HB := n3_;clear n0_ n1_ n2_ n3_;(try clear hb);(try clear hb2);(try clear hk);(try clear hi)) | (go_at_call 38;(with_reducible refine (tree_Same.calls _ _ t268 _ _ t271 t322 _ ?side1 ?side2 ?side3 ?side4 A145.out).mono ?_);(case side1 => repeat (first | exact (Kd.R_reads' HO_7.out).2.2 | (with_reducible refine Kd.C_alloc ?_ _) | (with_reducible refine Kd.C_drewN ?_ _) | (with_reducible refine Kd.C_drew ?_)));(case side2 => exact (Kd.R_reads' HO_7.out).2.1);(case side3 => repeat (first | exact (Kd.R_reads' HO_8.out).2.2 | (with_reducible refine Kd.C_alloc ?_ _) | (with_reducible refine Kd.C_drewN ?_ _) | (with_reducible refine Kd.C_drew ?_)));(case side4 => exact (Kd.R_reads' HO_8.out).2.1);rintro e w158 ⟨rfl,hb⟩;have n0_ := Aside0.mk (Kd.R_below (by (with_reducible repeat (first | apply Kd.R_alloc | apply Kd.R_drewN | apply Kd.R_drew));exact HO_7.out) hb);have n1_ := Aside0.mk (Kd.R_below (by (with_reducible repeat (first | apply Kd.R_alloc | apply Kd.R_drewN | apply Kd.R_drew));exact HO_8.out) hb);have n2_ := Aside0.mk (blk_below (g := gb264) (o := .cells #[.string a2_0,.string a2_1,.int .i64 a2_2,.int .i64 a2_3] 41 (0,0)) (by (with_reducible repeat (first | refine blk_drewN ?_ _ | refine blk_drew ?_ | refine blk_alloc ?_ _));exact BK264.out) hb);have n3_ := Aside0.mk (below_step (by repeat (first | (with_reducible first | exact HB.out | apply below_alloc | apply pw_below_drewN | apply below_drew1 | refine below_set ?_ GE264.out) | exact HB.out)) hb);clear HO_7;clear HO_8;clear BK264;clear HB;have HO_7 := n0_;have HO_8 := n1_;have BK264 := n2_;have HB := n3_;clear n0_ n1_ n2_ n3_;(try clear hb);(try clear hb2);(try clear hk);(try clear hi)) | (go_at_call 39;(with_reducible refine (steelyardkeep_Bare.calls kj130 _ _ l0 t323 _ ?side1 ?side2 A146.out).mono ?_);(case side1 => repeat (first | exact (Kd.C_below HR0.out HB.out) | (with_reducible refine Kd.C_alloc ?_ _) | (with_reducible refine Kd.C_drewN ?_ _) | (with_reducible refine Kd.C_drew ?_)));(case side2 => exact HC0.out);rintro e w159 ⟨v324,rfl,ho0,hb⟩;have n0_ := Aside0.mk (Kd.R_elder' (by (with_reducible repeat (first | apply Kd.R_alloc | apply Kd.R_drewN | apply Kd.R_drew));exact HO_7.out) (Kd.R_base ho0) hb);have n1_ := Aside0.mk (Kd.R_elder' (by (with_reducible repeat (first | apply Kd.R_alloc | apply Kd.R_drewN | apply Kd.R_drew));exact HO_8.out) (Kd.R_base ho0) hb);have n2_ := Aside0.mk (Kd.R_lower (Kd.R_new' (Kd.R_new' ho0 (Kd.R_lt (by (with_reducible repeat (first | apply Kd.R_alloc | apply Kd.R_drewN | apply Kd.R_drew));exact HO_7.out))) (Kd.R_lt (by (with_reducible repeat (first | apply Kd.R_alloc | apply Kd.R_drewN | apply Kd.R_drew));exact HO_8.out))) (below_size (by repeat (first | (with_reducible first | exact HB.out | apply below_alloc | apply pw_below_drewN | apply below_drew1 | refine below_set ?_ GE264.out) | exact HB.out))));have n3_ := Aside0.mk (blk_below (g := gb264) (o := .cells #[.string a2_0,.string a2_1,.int .i64 a2_2,.int .i64 a2_3] 41 (0,0)) (by (with_reducible repeat (first | refine blk_drewN ?_ _ | refine blk_drew ?_ | refine blk_alloc ?_ _));exact BK264.out) hb);have n4_ := Aside0.mk (below_step (by repeat (first | (with_reducible first | exact HB.out | apply below_alloc | apply pw_below_drewN | apply below_drew1 | refine below_set ?_ GE264.out) | exact HB.out)) hb);clear HO_7;clear HO_8;clear BK264;clear HB;have HO_7 := n0_;have HO_8 := n1_;have HO325 := n2_;have BK264 := n3_;have HB := n4_;clear n0_ n1_ n2_ n3_ n4_;(try clear hb);(try clear hb2);(try clear hk);(try clear hi);(try clear ho0)) | (go_at_call 39;(with_reducible refine (steelyardkeep_Bare.calls kj130 _ _ l1 t326 _ ?side1 ?side2 A147.out).mono ?_);(case side1 => repeat (first | exact (Kd.C_below HR1.out HB.out) | (with_reducible refine Kd.C_alloc ?_ _) | (with_reducible refine Kd.C_drewN ?_ _) | (with_reducible refine Kd.C_drew ?_)));(case side2 => exact HC1.out);rintro e w160 ⟨v327,rfl,ho0,hb⟩;have n0_ := Aside0.mk (Kd.R_elder' (by (with_reducible repeat (first | apply Kd.R_alloc | apply Kd.R_drewN | apply Kd.R_drew));exact HO_7.out) (Kd.R_base ho0) hb);have n1_ := Aside0.mk (Kd.R_elder' (by (with_reducible repeat (first | apply Kd.R_alloc | apply Kd.R_drewN | apply Kd.R_drew));exact HO_8.out) (Kd.R_base ho0) hb);have n2_ := Aside0.mk (Kd.R_elder' (by (with_reducible repeat (first | apply Kd.R_alloc | apply Kd.R_drewN | apply Kd.R_drew));exact HO325.out) (Kd.R_base ho0) hb);have n3_ := Aside0.mk (Kd.R_lower (Kd.R_new' (Kd.R_new' (Kd.R_new' ho0 (Kd.R_lt (by (with_reducible repeat (first | apply Kd.R_alloc | apply Kd.R_drewN | apply Kd.R_drew));exact HO_7.out))) (Kd.R_lt (by (with_reducible repeat (first | apply Kd.R_alloc | apply Kd.R_drewN | apply Kd.R_drew));exact HO_8.out))) (Kd.R_lt (by (with_reducible repeat (first | apply Kd.R_alloc | apply Kd.R_drewN | apply Kd.R_drew));exact HO325.out))) (below_size (by repeat (first | (with_reducible first | exact HB.out | apply below_alloc | apply pw_below_drewN | apply below_drew1 | refine below_set ?_ GE264.out) | exact HB.out))));have n4_ := Aside0.mk (blk_below (g := gb264) (o := .cells #[.string a2_0,.string a2_1,.int .i64 a2_2,.int .i64 a2_3] 41 (0,0)) (by (with_reducible repeat (first | refine blk_drewN ?_ _ | refine blk_drew ?_ | refine blk_alloc ?_ _));exact BK264.out) hb);have n5_ := Aside0.mk (below_step (by repeat (first | (with_reducible first | exact HB.out | apply below_alloc | apply pw_below_drewN | apply below_drew1 | refine below_set ?_ GE264.out) | exact HB.out)) hb);clear HO_7;clear HO_8;clear HO325;clear BK264;clear HB;have HO_7 := n0_;have HO_8 := n1_;have HO325 := n2_;have HO328 := n3_;have BK264 := n4_;have HB := n5_;clear n0_ n1_ n2_ n3_ n4_ n5_;(try clear hb);(try clear hb2);(try clear hk);(try clear hi);(try clear ho0);obtain ⟨Ao161,co161,eo161⟩ := Kd.R_slice HO325.out;subst eo161;obtain ⟨Ao162,co162,eo162⟩ := Kd.R_slice HO328.out;subst eo162) | (go_at_call 33;(with_reducible refine (steelyardkeep_Tree.calls kj130 _ _ t323 _ _ t326 t329 _ ?side1 ?side2 ?side3 ?side4 A148.out).mono ?_);(case side1 => repeat (first | exact (Kd.R_reads' HO325.out).2.2 | (with_reducible refine Kd.C_alloc ?_ _) | (with_reducible refine Kd.C_drewN ?_ _) | (with_reducible refine Kd.C_drew ?_)));(case side2 => exact (Kd.R_reads' HO325.out).2.1);(case side3 => repeat (first | exact (Kd.R_reads' HO328.out).2.2 | (with_reducible refine Kd.C_alloc ?_ _) | (with_reducible refine Kd.C_drewN ?_ _) | (with_reducible refine Kd.C_drew ?_)));(case side4 => exact (Kd.R_reads' HO328.out).2.1);rintro e w' ⟨rfl,⟨nd,rfl⟩⟩) | (go_at_call 33;(with_reducible refine (steelyardkeep_Tree.calls kj130 _ _ t268 _ _ l0 true _ ?side1 ?side2 ?side3 ?side4 A150.out).mono ?_);(case side1 => repeat (first | exact (Kd.R_reads' HO_7.out).2.2 | (with_reducible refine Kd.C_alloc ?_ _) | (with_reducible refine Kd.C_drewN ?_ _) | (with_reducible refine Kd.C_drew ?_)));(case side2 => exact (Kd.R_reads' HO_7.out).2.1);(case side3 => repeat (first | exact (Kd.C_below HR0.out (by repeat (first | (with_reducible first | exact HB.out | apply below_alloc | apply pw_below_drewN | apply below_drew1 | refine below_set ?_ GE264.out) | exact HB.out))) | (with_reducible refine Kd.C_alloc ?_ _) | (with_reducible refine Kd.C_drewN ?_ _) | (with_reducible refine Kd.C_drew ?_)));(case side4 => exact HC0.out);rintro e w' ⟨rfl,⟨nd,rfl⟩⟩) | (go_at_call 33;(with_reducible refine (steelyardkeep_Tree.calls kj130 _ _ t271 _ _ l1 true _ ?side1 ?side2 ?side3 ?side4 A152.out).mono ?_);(case side1 => repeat (first | exact (Kd.R_reads' HO_8.out).2.2 | (with_reducible refine Kd.C_alloc ?_ _) | (with_reducible refine Kd.C_drewN ?_ _) | (with_reducible refine Kd.C_drew ?_)));(case side2 => exact (Kd.R_reads' HO_8.out).2.1);(case side3 => repeat (first | exact (Kd.C_below HR1.out (by repeat (first | (with_reducible first | exact HB.out | apply below_alloc | apply pw_below_drewN | apply below_drew1 | refine below_set ?_ GE264.out) | exact HB.out))) | (with_reducible refine Kd.C_alloc ?_ _) | (with_reducible refine Kd.C_drewN ?_ _) | (with_reducible refine Kd.C_drew ?_)));(case side4 => exact HC1.out);rintro e w' ⟨rfl,⟨nd,rfl⟩⟩) | (go_at_call 23;(with_reducible refine (steelyardlaw14_wakes.calls  t332 _ A154.out ?sideG_).mono ?_);(case sideG_ => (first | (with_reducible exact HG_.out) | exact HG_.out.below (by repeat (first | (with_reducible first | exact HB.out | apply below_alloc | apply pw_below_drewN | apply below_drew1 | refine below_set ?_ GE264.out) | exact HB.out))));rintro e w163 ⟨rfl,hb⟩;have n0_ := Aside0.mk (Kd.R_below (by (with_reducible repeat (first | apply Kd.R_alloc | apply Kd.R_drewN | apply Kd.R_drew));exact HO_7.out) hb);have n1_ := Aside0.mk (Kd.R_below (by (with_reducible repeat (first | apply Kd.R_alloc | apply Kd.R_drewN | apply Kd.R_drew));exact HO_8.out) hb);have n2_ := Aside0.mk (Kd.R_below (by (with_reducible repeat (first | apply Kd.R_alloc | apply Kd.R_drewN | apply Kd.R_drew));exact HO325.out) hb);have n3_ := Aside0.mk (Kd.R_below (by (with_reducible repeat (first | apply Kd.R_alloc | apply Kd.R_drewN | apply Kd.R_drew));exact HO328.out) hb);have n4_ := Aside0.mk (blk_below (g := gb264) (o := .cells #[.string a2_0,.string a2_1,.int .i64 a2_2,.int .i64 a2_3] 41 (0,0)) (by (with_reducible repeat (first | refine blk_drewN ?_ _ | refine blk_drew ?_ | refine blk_alloc ?_ _));exact BK264.out) hb);have n5_ := Aside0.mk (below_step (by repeat (first | (with_reducible first | exact HB.out | apply below_alloc | apply pw_below_drewN | apply below_drew1 | refine below_set ?_ GE264.out) | exact HB.out)) hb);clear HO_7;clear HO_8;clear HO325;clear HO328;clear BK264;clear HB;have HO_7 := n0_;have HO_8 := n1_;have HO325 := n2_;have HO328 := n3_;have BK264 := n4_;have HB := n5_;clear n0_ n1_ n2_ n3_ n4_ n5_;(try clear hb);(try clear hb2);(try clear hk);(try clear hi)))
              go_ret
              exact ⟨by first | rfl | (simp [errW_none,errW_some] <;> rfl) | (simp [*,errW_none,errW_some] <;> rfl),by repeat (first | (with_reducible first | exact HB.out | apply below_alloc | apply pw_below_drewN | apply below_drew1 | refine below_set ?_ GE264.out) | exact HB.out)⟩
             ·replace c153 := Bool.eq_false_iff.mpr c153
              subst c153
              have H1 : (some false) = some r := by rw [if_neg (show ¬ (false = true) by decide)] at H;exact H
              clear H
              have H := H1
              clear H1
              obtain rfl := Option.some.inj H
              go_wp2_with (first | ((with_reducible refine gate_callee (f := 36) rfl ?_);refine goesL_ (some 178) rfl rfl Tryd.func36 (by kernel_rfl) rfl #[.slice Ao43 t268.length co43] rfl (by (try simp only [List.map_toArray,List.map_cons,List.map_nil]);first | done | rfl | (simp only [List.length_drop,List.length_take];rfl)) ?_;(with_reducible refine (tree_Good.calls kj130 _ _ t268 t319 _ ?side1 ?side2 A140.out ?sideG_).mono ?_);(case sideG_ => (first | (with_reducible exact HG_.out) | exact HG_.out.below (by repeat (first | (with_reducible first | exact HB.out | apply below_alloc | apply pw_below_drewN | apply below_drew1 | refine below_set ?_ GE264.out) | exact HB.out))));(case side1 => repeat (first | exact (Kd.R_reads' HO_7.out).2.2 | (with_reducible refine Kd.C_alloc ?_ _) | (with_reducible refine Kd.C_drewN ?_ _) | (with_reducible refine Kd.C_drew ?_)));(case side2 => exact (Kd.R_reads' HO_7.out).2.1);rintro e w164 ⟨rfl,hb⟩;refine ⟨_,rfl,?_⟩;have n0_ := Aside0.mk (Kd.R_below (by (with_reducible repeat (first | apply Kd.R_alloc | apply Kd.R_drewN | apply Kd.R_drew));exact HO_7.out) hb);have n1_ := Aside0.mk (Kd.R_below (by (with_reducible repeat (first | apply Kd.R_alloc | apply Kd.R_drewN | apply Kd.R_drew));exact HO_8.out) hb);have n2_ := Aside0.mk (blk_below (g := gb264) (o := .cells #[.string a2_0,.string a2_1,.int .i64 a2_2,.int .i64 a2_3] 41 (0,0)) (by (with_reducible repeat (first | refine blk_drewN ?_ _ | refine blk_drew ?_ | refine blk_alloc ?_ _));exact BK264.out) hb);have n3_ := Aside0.mk (below_step (by repeat (first | (with_reducible first | exact HB.out | apply below_alloc | apply pw_below_drewN | apply below_drew1 | refine below_set ?_ GE264.out) | exact HB.out)) hb);clear HO_7;clear HO_8;clear BK264;clear HB;have HO_7 := n0_;have HO_8 := n1_;have BK264 := n2_;have HB := n3_;clear n0_ n1_ n2_ n3_;(try clear hb);(try clear hb2);(try clear hk);(try clear hi)) | ((with_reducible refine gate_callee (f := 34) rfl ?_);refine goesL_ (some 180) rfl rfl Tryd.func34 (by kernel_rfl) rfl #[.slice A0 l0.length c0] rfl (by (try simp only [List.map_toArray,List.map_cons,List.map_nil]);first | done | rfl | (simp only [List.length_drop,List.length_take];rfl)) ?_;(with_reducible refine (steelyardref14_Good.calls _ _ l0 t320 _ ?side1 ?side2 A141.out).mono ?_);(case side1 => repeat (first | exact (Kd.C_below HR0.out HB.out) | (with_reducible refine Kd.C_alloc ?_ _) | (with_reducible refine Kd.C_drewN ?_ _) | (with_reducible refine Kd.C_drew ?_)));(case side2 => exact HC0.out);rintro e w165 ⟨rfl,hb⟩;refine ⟨_,rfl,?_⟩;have n0_ := Aside0.mk (Kd.R_below (by (with_reducible repeat (first | apply Kd.R_alloc | apply Kd.R_drewN | apply Kd.R_drew));exact HO_7.out) hb);have n1_ := Aside0.mk (Kd.R_below (by (with_reducible repeat (first | apply Kd.R_alloc | apply Kd.R_drewN | apply Kd.R_drew));exact HO_8.out) hb);have n2_ := Aside0.mk (blk_below (g := gb264) (o := .cells #[.string a2_0,.string a2_1,.int .i64 a2_2,.int .i64 a2_3] 41 (0,0)) (by (with_reducible repeat (first | refine blk_drewN ?_ _ | refine blk_drew ?_ | refine blk_alloc ?_ _));exact BK264.out) hb);have n3_ := Aside0.mk (below_step (by repeat (first | (with_reducible first | exact HB.out | apply below_alloc | apply pw_below_drewN | apply below_drew1 | refine below_set ?_ GE264.out) | exact HB.out)) hb);clear HO_7;clear HO_8;clear BK264;clear HB;have HO_7 := n0_;have HO_8 := n1_;have BK264 := n2_;have HB := n3_;clear n0_ n1_ n2_ n3_;(try clear hb);(try clear hb2);(try clear hk);(try clear hi)) | (go_at_call 37;(with_reducible refine (tree_Deep.calls kj130 _ _ t268 t321 _ ?side1 ?side2 A143.out ?sideG_).mono ?_);(case sideG_ => (first | (with_reducible exact HG_.out) | exact HG_.out.below (by repeat (first | (with_reducible first | exact HB.out | apply below_alloc | apply pw_below_drewN | apply below_drew1 | refine below_set ?_ GE264.out) | exact HB.out))));(case side1 => repeat (first | exact (Kd.R_reads' HO_7.out).2.2 | (with_reducible refine Kd.C_alloc ?_ _) | (with_reducible refine Kd.C_drewN ?_ _) | (with_reducible refine Kd.C_drew ?_)));(case side2 => exact (Kd.R_reads' HO_7.out).2.1);rintro e w166 ⟨rfl,hb⟩;have n0_ := Aside0.mk (Kd.R_below (by (with_reducible repeat (first | apply Kd.R_alloc | apply Kd.R_drewN | apply Kd.R_drew));exact HO_7.out) hb);have n1_ := Aside0.mk (Kd.R_below (by (with_reducible repeat (first | apply Kd.R_alloc | apply Kd.R_drewN | apply Kd.R_drew));exact HO_8.out) hb);have n2_ := Aside0.mk (blk_below (g := gb264) (o := .cells #[.string a2_0,.string a2_1,.int .i64 a2_2,.int .i64 a2_3] 41 (0,0)) (by (with_reducible repeat (first | refine blk_drewN ?_ _ | refine blk_drew ?_ | refine blk_alloc ?_ _));exact BK264.out) hb);have n3_ := Aside0.mk (below_step (by repeat (first | (with_reducible first | exact HB.out | apply below_alloc | apply pw_below_drewN | apply below_drew1 | refine below_set ?_ GE264.out) | exact HB.out)) hb);clear HO_7;clear HO_8;clear BK264;clear HB;have HO_7 := n0_;have HO_8 := n1_;have BK264 := n2_;have HB := n3_;clear n0_ n1_ n2_ n3_;(try clear hb);(try clear hb2);(try clear hk);(try clear hi)) | (go_at_call 38;(with_reducible refine (tree_Same.calls _ _ t268 _ _ t271 t322 _ ?side1 ?side2 ?side3 ?side4 A145.out).mono ?_);(case side1 => repeat (first | exact (Kd.R_reads' HO_7.out).2.2 | (with_reducible refine Kd.C_alloc ?_ _) | (with_reducible refine Kd.C_drewN ?_ _) | (with_reducible refine Kd.C_drew ?_)));(case side2 => exact (Kd.R_reads' HO_7.out).2.1);(case side3 => repeat (first | exact (Kd.R_reads' HO_8.out).2.2 | (with_reducible refine Kd.C_alloc ?_ _) | (with_reducible refine Kd.C_drewN ?_ _) | (with_reducible refine Kd.C_drew ?_)));(case side4 => exact (Kd.R_reads' HO_8.out).2.1);rintro e w167 ⟨rfl,hb⟩;have n0_ := Aside0.mk (Kd.R_below (by (with_reducible repeat (first | apply Kd.R_alloc | apply Kd.R_drewN | apply Kd.R_drew));exact HO_7.out) hb);have n1_ := Aside0.mk (Kd.R_below (by (with_reducible repeat (first | apply Kd.R_alloc | apply Kd.R_drewN | apply Kd.R_drew));exact HO_8.out) hb);have n2_ := Aside0.mk (blk_below (g := gb264) (o := .cells #[.string a2_0,.string a2_1,.int .i64 a2_2,.int .i64 a2_3] 41 (0,0)) (by (with_reducible repeat (first | refine blk_drewN ?_ _ | refine blk_drew ?_ | refine blk_alloc ?_ _));exact BK264.out) hb);have n3_ := Aside0.mk (below_step (by repeat (first | (with_reducible first | exact HB.out | apply below_alloc | apply pw_below_drewN | apply below_drew1 | refine below_set ?_ GE264.out) | exact HB.out)) hb);clear HO_7;clear HO_8;clear BK264;clear HB;have HO_7 := n0_;have HO_8 := n1_;have BK264 := n2_;have HB := n3_;clear n0_ n1_ n2_ n3_;(try clear hb);(try clear hb2);(try clear hk);(try clear hi)) | (go_at_call 39;(with_reducible refine (steelyardkeep_Bare.calls kj130 _ _ l0 t323 _ ?side1 ?side2 A146.out).mono ?_);(case side1 => repeat (first | exact (Kd.C_below HR0.out HB.out) | (with_reducible refine Kd.C_alloc ?_ _) | (with_reducible refine Kd.C_drewN ?_ _) | (with_reducible refine Kd.C_drew ?_)));(case side2 => exact HC0.out);rintro e w168 ⟨v324,rfl,ho0,hb⟩;have n0_ := Aside0.mk (Kd.R_elder' (by (with_reducible repeat (first | apply Kd.R_alloc | apply Kd.R_drewN | apply Kd.R_drew));exact HO_7.out) (Kd.R_base ho0) hb);have n1_ := Aside0.mk (Kd.R_elder' (by (with_reducible repeat (first | apply Kd.R_alloc | apply Kd.R_drewN | apply Kd.R_drew));exact HO_8.out) (Kd.R_base ho0) hb);have n2_ := Aside0.mk (Kd.R_lower (Kd.R_new' (Kd.R_new' ho0 (Kd.R_lt (by (with_reducible repeat (first | apply Kd.R_alloc | apply Kd.R_drewN | apply Kd.R_drew));exact HO_7.out))) (Kd.R_lt (by (with_reducible repeat (first | apply Kd.R_alloc | apply Kd.R_drewN | apply Kd.R_drew));exact HO_8.out))) (below_size (by repeat (first | (with_reducible first | exact HB.out | apply below_alloc | apply pw_below_drewN | apply below_drew1 | refine below_set ?_ GE264.out) | exact HB.out))));have n3_ := Aside0.mk (blk_below (g := gb264) (o := .cells #[.string a2_0,.string a2_1,.int .i64 a2_2,.int .i64 a2_3] 41 (0,0)) (by (with_reducible repeat (first | refine blk_drewN ?_ _ | refine blk_drew ?_ | refine blk_alloc ?_ _));exact BK264.out) hb);have n4_ := Aside0.mk (below_step (by repeat (first | (with_reducible first | exact HB.out | apply below_alloc | apply pw_below_drewN | apply below_drew1 | refine below_set ?_ GE264.out) | exact HB.out)) hb);clear HO_7;clear HO_8;clear BK264;clear HB;have HO_7 := n0_;have HO_8 := n1_;have HO325 := n2_;have BK264 := n3_;have HB := n4_;clear n0_ n1_ n2_ n3_ n4_;(try clear hb);(try clear hb2);(try clear hk);(try clear hi);(try clear ho0)) | (go_at_call 39;(with_reducible refine (steelyardkeep_Bare.calls kj130 _ _ l1 t326 _ ?side1 ?side2 A147.out).mono ?_);(case side1 => repeat (first | exact (Kd.C_below HR1.out HB.out) | (with_reducible refine Kd.C_alloc ?_ _) | (with_reducible refine Kd.C_drewN ?_ _) | (with_reducible refine Kd.C_drew ?_)));(case side2 => exact HC1.out);rintro e w169 ⟨v327,rfl,ho0,hb⟩;have n0_ := Aside0.mk (Kd.R_elder' (by (with_reducible repeat (first | apply Kd.R_alloc | apply Kd.R_drewN | apply Kd.R_drew));exact HO_7.out) (Kd.R_base ho0) hb);have n1_ := Aside0.mk (Kd.R_elder' (by (with_reducible repeat (first | apply Kd.R_alloc | apply Kd.R_drewN | apply Kd.R_drew));exact HO_8.out) (Kd.R_base ho0) hb);have n2_ := Aside0.mk (Kd.R_elder' (by (with_reducible repeat (first | apply Kd.R_alloc | apply Kd.R_drewN | apply Kd.R_drew));exact HO325.out) (Kd.R_base ho0) hb);have n3_ := Aside0.mk (Kd.R_lower (Kd.R_new' (Kd.R_new' (Kd.R_new' ho0 (Kd.R_lt (by (with_reducible repeat (first | apply Kd.R_alloc | apply Kd.R_drewN | apply Kd.R_drew));exact HO_7.out))) (Kd.R_lt (by (with_reducible repeat (first | apply Kd.R_alloc | apply Kd.R_drewN | apply Kd.R_drew));exact HO_8.out))) (Kd.R_lt (by (with_reducible repeat (first | apply Kd.R_alloc | apply Kd.R_drewN | apply Kd.R_drew));exact HO325.out))) (below_size (by repeat (first | (with_reducible first | exact HB.out | apply below_alloc | apply pw_below_drewN | apply below_drew1 | refine below_set ?_ GE264.out) | exact HB.out))));have n4_ := Aside0.mk (blk_below (g := gb264) (o := .cells #[.string a2_0,.string a2_1,.int .i64 a2_2,.int .i64 a2_3] 41 (0,0)) (by (with_reducible repeat (first | refine blk_drewN ?_ _ | refine blk_drew ?_ | refine blk_alloc ?_ _));exact BK264.out) hb);have n5_ := Aside0.mk (below_step (by repeat (first | (with_reducible first | exact HB.out | apply below_alloc | apply pw_below_drewN | apply below_drew1 | refine below_set ?_ GE264.out) | exact HB.out)) hb);clear HO_7;clear HO_8;clear HO325;clear BK264;clear HB;have HO_7 := n0_;have HO_8 := n1_;have HO325 := n2_;have HO328 := n3_;have BK264 := n4_;have HB := n5_;clear n0_ n1_ n2_ n3_ n4_ n5_;(try clear hb);(try clear hb2);(try clear hk);(try clear hi);(try clear ho0);obtain ⟨Ao170,co170,eo170⟩ := Kd.R_slice HO325.out;subst eo170;obtain ⟨Ao171,co171,eo171⟩ := Kd.R_slice HO328.out;subst eo171) | (go_at_call 33;(with_reducible refine (steelyardkeep_Tree.calls kj130 _ _ t323 _ _ t326 t329 _ ?side1 ?side2 ?side3 ?side4 A148.out).mono ?_);(case side1 => repeat (first | exact (Kd.R_reads' HO325.out).2.2 | (with_reducible refine Kd.C_alloc ?_ _) | (with_reducible refine Kd.C_drewN ?_ _) | (with_reducible refine Kd.C_drew ?_)));(case side2 => exact (Kd.R_reads' HO325.out).2.1);(case side3 => repeat (first | exact (Kd.R_reads' HO328.out).2.2 | (with_reducible refine Kd.C_alloc ?_ _) | (with_reducible refine Kd.C_drewN ?_ _) | (with_reducible refine Kd.C_drew ?_)));(case side4 => exact (Kd.R_reads' HO328.out).2.1);rintro e w' ⟨rfl,⟨nd,rfl⟩⟩) | (go_at_call 33;(with_reducible refine (steelyardkeep_Tree.calls kj130 _ _ t268 _ _ l0 true _ ?side1 ?side2 ?side3 ?side4 A150.out).mono ?_);(case side1 => repeat (first | exact (Kd.R_reads' HO_7.out).2.2 | (with_reducible refine Kd.C_alloc ?_ _) | (with_reducible refine Kd.C_drewN ?_ _) | (with_reducible refine Kd.C_drew ?_)));(case side2 => exact (Kd.R_reads' HO_7.out).2.1);(case side3 => repeat (first | exact (Kd.C_below HR0.out (by repeat (first | (with_reducible first | exact HB.out | apply below_alloc | apply pw_below_drewN | apply below_drew1 | refine below_set ?_ GE264.out) | exact HB.out))) | (with_reducible refine Kd.C_alloc ?_ _) | (with_reducible refine Kd.C_drewN ?_ _) | (with_reducible refine Kd.C_drew ?_)));(case side4 => exact HC0.out);rintro e w' ⟨rfl,⟨nd,rfl⟩⟩) | (go_at_call 33;(with_reducible refine (steelyardkeep_Tree.calls kj130 _ _ t271 _ _ l1 false _ ?side1 ?side2 ?side3 ?side4 A152.out).mono ?_);(case side1 => repeat (first | exact (Kd.R_reads' HO_8.out).2.2 | (with_reducible refine Kd.C_alloc ?_ _) | (with_reducible refine Kd.C_drewN ?_ _) | (with_reducible refine Kd.C_drew ?_)));(case side2 => exact (Kd.R_reads' HO_8.out).2.1);(case side3 => repeat (first | exact (Kd.C_below HR1.out (by repeat (first | (with_reducible first | exact HB.out | apply below_alloc | apply pw_below_drewN | apply below_drew1 | refine below_set ?_ GE264.out) | exact HB.out))) | (with_reducible refine Kd.C_alloc ?_ _) | (with_reducible refine Kd.C_drewN ?_ _) | (with_reducible refine Kd.C_drew ?_)));(case side4 => exact HC1.out);rintro e w' ⟨rfl,⟨nd,rfl⟩⟩))
              go_ret
              exact ⟨by first | rfl | (simp [errW_none,errW_some] <;> rfl) | (simp [*,errW_none,errW_some] <;> rfl),by repeat (first | (with_reducible first | exact HB.out | apply below_alloc | apply pw_below_drewN | apply below_drew1 | refine below_set ?_ GE264.out) | exact HB.out)⟩
            ·replace c151 := Bool.eq_false_iff.mpr c151
             subst c151
             have H1 : (some false) = some r := by rw [if_neg (show ¬ (false = true) by decide)] at H;exact H
             clear H
             have H := H1
             clear H1
             obtain rfl := Option.some.inj H
             go_wp2_with (first | ((with_reducible refine gate_callee (f := 36) rfl ?_);refine goesL_ (some 178) rfl rfl Tryd.func36 (by kernel_rfl) rfl #[.slice Ao43 t268.length co43] rfl (by (try simp only [List.map_toArray,List.map_cons,List.map_nil]);first | done | rfl | (simp only [List.length_drop,List.length_take];rfl)) ?_;(with_reducible refine (tree_Good.calls kj130 _ _ t268 t319 _ ?side1 ?side2 A140.out ?sideG_).mono ?_);(case sideG_ => (first | (with_reducible exact HG_.out) | exact HG_.out.below (by repeat (first | (with_reducible first | exact HB.out | apply below_alloc | apply pw_below_drewN | apply below_drew1 | refine below_set ?_ GE264.out) | exact HB.out))));(case side1 => repeat (first | exact (Kd.R_reads' HO_7.out).2.2 | (with_reducible refine Kd.C_alloc ?_ _) | (with_reducible refine Kd.C_drewN ?_ _) | (with_reducible refine Kd.C_drew ?_)));(case side2 => exact (Kd.R_reads' HO_7.out).2.1);rintro e w172 ⟨rfl,hb⟩;refine ⟨_,rfl,?_⟩;have n0_ := Aside0.mk (Kd.R_below (by (with_reducible repeat (first | apply Kd.R_alloc | apply Kd.R_drewN | apply Kd.R_drew));exact HO_7.out) hb);have n1_ := Aside0.mk (Kd.R_below (by (with_reducible repeat (first | apply Kd.R_alloc | apply Kd.R_drewN | apply Kd.R_drew));exact HO_8.out) hb);have n2_ := Aside0.mk (blk_below (g := gb264) (o := .cells #[.string a2_0,.string a2_1,.int .i64 a2_2,.int .i64 a2_3] 41 (0,0)) (by (with_reducible repeat (first | refine blk_drewN ?_ _ | refine blk_drew ?_ | refine blk_alloc ?_ _));exact BK264.out) hb);have n3_ := Aside0.mk (below_step (by repeat (first | (with_reducible first | exact HB.out | apply below_alloc | apply pw_below_drewN | apply below_drew1 | refine below_set ?_ GE264.out) | exact HB.out)) hb);clear HO_7;clear HO_8;clear BK264;clear HB;have HO_7 := n0_;have HO_8 := n1_;have BK264 := n2_;have HB := n3_;clear n0_ n1_ n2_ n3_;(try clear hb);(try clear hb2);(try clear hk);(try clear hi)) | ((with_reducible refine gate_callee (f := 34) rfl ?_);refine goesL_ (some 180) rfl rfl Tryd.func34 (by kernel_rfl) rfl #[.slice A0 l0.length c0] rfl (by (try simp only [List.map_toArray,List.map_cons,List.map_nil]);first | done | rfl | (simp only [List.length_drop,List.length_take];rfl)) ?_;(with_reducible refine (steelyardref14_Good.calls _ _ l0 t320 _ ?side1 ?side2 A141.out).mono ?_);(case side1 => repeat (first | exact (Kd.C_below HR0.out HB.out) | (with_reducible refine Kd.C_alloc ?_ _) | (with_reducible refine Kd.C_drewN ?_ _) | (with_reducible refine Kd.C_drew ?_)));(case side2 => exact HC0.out);rintro e w173 ⟨rfl,hb⟩;refine ⟨_,rfl,?_⟩;have n0_ := Aside0.mk (Kd.R_below (by (with_reducible repeat (first | apply Kd.R_alloc | apply Kd.R_drewN | apply Kd.R_drew));exact HO_7.out) hb);have n1_ := Aside0.mk (Kd.R_below (by (with_reducible repeat (first | apply Kd.R_alloc | apply Kd.R_drewN | apply Kd.R_drew));exact HO_8.out) hb);have n2_ := Aside0.mk (blk_below (g := gb264) (o := .cells #[.string a2_0,.string a2_1,.int .i64 a2_2,.int .i64 a2_3] 41 (0,0)) (by (with_reducible repeat (first | refine blk_drewN ?_ _ | refine blk_drew ?_ | refine blk_alloc ?_ _));exact BK264.out) hb);have n3_ := Aside0.mk (below_step (by repeat (first | (with_reducible first | exact HB.out | apply below_alloc | apply pw_below_drewN | apply below_drew1 | refine below_set ?_ GE264.out) | exact HB.out)) hb);clear HO_7;clear HO_8;clear BK264;clear HB;have HO_7 := n0_;have HO_8 := n1_;have BK264 := n2_;have HB := n3_;clear n0_ n1_ n2_ n3_;(try clear hb);(try clear hb2);(try clear hk);(try clear hi)) | (go_at_call 37;(with_reducible refine (tree_Deep.calls kj130 _ _ t268 t321 _ ?side1 ?side2 A143.out ?sideG_).mono ?_);(case sideG_ => (first | (with_reducible exact HG_.out) | exact HG_.out.below (by repeat (first | (with_reducible first | exact HB.out | apply below_alloc | apply pw_below_drewN | apply below_drew1 | refine below_set ?_ GE264.out) | exact HB.out))));(case side1 => repeat (first | exact (Kd.R_reads' HO_7.out).2.2 | (with_reducible refine Kd.C_alloc ?_ _) | (with_reducible refine Kd.C_drewN ?_ _) | (with_reducible refine Kd.C_drew ?_)));(case side2 => exact (Kd.R_reads' HO_7.out).2.1);rintro e w174 ⟨rfl,hb⟩;have n0_ := Aside0.mk (Kd.R_below (by (with_reducible repeat (first | apply Kd.R_alloc | apply Kd.R_drewN | apply Kd.R_drew));exact HO_7.out) hb);have n1_ := Aside0.mk (Kd.R_below (by (with_reducible repeat (first | apply Kd.R_alloc | apply Kd.R_drewN | apply Kd.R_drew));exact HO_8.out) hb);have n2_ := Aside0.mk (blk_below (g := gb264) (o := .cells #[.string a2_0,.string a2_1,.int .i64 a2_2,.int .i64 a2_3] 41 (0,0)) (by (with_reducible repeat (first | refine blk_drewN ?_ _ | refine blk_drew ?_ | refine blk_alloc ?_ _));exact BK264.out) hb);have n3_ := Aside0.mk (below_step (by repeat (first | (with_reducible first | exact HB.out | apply below_alloc | apply pw_below_drewN | apply below_drew1 | refine below_set ?_ GE264.out) | exact HB.out)) hb);clear HO_7;clear HO_8;clear BK264;clear HB;have HO_7 := n0_;have HO_8 := n1_;have BK264 := n2_;have HB := n3_;clear n0_ n1_ n2_ n3_;(try clear hb);(try clear hb2);(try clear hk);(try clear hi)) | (go_at_call 38;(with_reducible refine (tree_Same.calls _ _ t268 _ _ t271 t322 _ ?side1 ?side2 ?side3 ?side4 A145.out).mono ?_);(case side1 => repeat (first | exact (Kd.R_reads' HO_7.out).2.2 | (with_reducible refine Kd.C_alloc ?_ _) | (with_reducible refine Kd.C_drewN ?_ _) | (with_reducible refine Kd.C_drew ?_)));(case side2 => exact (Kd.R_reads' HO_7.out).2.1);(case side3 => repeat (first | exact (Kd.R_reads' HO_8.out).2.2 | (with_reducible refine Kd.C_alloc ?_ _) | (with_reducible refine Kd.C_drewN ?_ _) | (with_reducible refine Kd.C_drew ?_)));(case side4 => exact (Kd.R_reads' HO_8.out).2.1);rintro e w175 ⟨rfl,hb⟩;have n0_ := Aside0.mk (Kd.R_below (by (with_reducible repeat (first | apply Kd.R_alloc | apply Kd.R_drewN | apply Kd.R_drew));exact HO_7.out) hb);have n1_ := Aside0.mk (Kd.R_below (by (with_reducible repeat (first | apply Kd.R_alloc | apply Kd.R_drewN | apply Kd.R_drew));exact HO_8.out) hb);have n2_ := Aside0.mk (blk_below (g := gb264) (o := .cells #[.string a2_0,.string a2_1,.int .i64 a2_2,.int .i64 a2_3] 41 (0,0)) (by (with_reducible repeat (first | refine blk_drewN ?_ _ | refine blk_drew ?_ | refine blk_alloc ?_ _));exact BK264.out) hb);have n3_ := Aside0.mk (below_step (by repeat (first | (with_reducible first | exact HB.out | apply below_alloc | apply pw_below_drewN | apply below_drew1 | refine below_set ?_ GE264.out) | exact HB.out)) hb);clear HO_7;clear HO_8;clear BK264;clear HB;have HO_7 := n0_;have HO_8 := n1_;have BK264 := n2_;have HB := n3_;clear n0_ n1_ n2_ n3_;(try clear hb);(try clear hb2);(try clear hk);(try clear hi)) | (go_at_call 39;(with_reducible refine (steelyardkeep_Bare.calls kj130 _ _ l0 t323 _ ?side1 ?side2 A146.out).mono ?_);(case side1 => repeat (first | exact (Kd.C_below HR0.out HB.out) | (with_reducible refine Kd.C_alloc ?_ _) | (with_reducible refine Kd.C_drewN ?_ _) | (with_reducible refine Kd.C_drew ?_)));(case side2 => exact HC0.out);rintro e w176 ⟨v324,rfl,ho0,hb⟩;have n0_ := Aside0.mk (Kd.R_elder' (by (with_reducible repeat (first | apply Kd.R_alloc | apply Kd.R_drewN | apply Kd.R_drew));exact HO_7.out) (Kd.R_base ho0) hb);have n1_ := Aside0.mk (Kd.R_elder' (by (with_reducible repeat (first | apply Kd.R_alloc | apply Kd.R_drewN | apply Kd.R_drew));exact HO_8.out) (Kd.R_base ho0) hb);have n2_ := Aside0.mk (Kd.R_lower (Kd.R_new' (Kd.R_new' ho0 (Kd.R_lt (by (with_reducible repeat (first | apply Kd.R_alloc | apply Kd.R_drewN | apply Kd.R_drew));exact HO_7.out))) (Kd.R_lt (by (with_reducible repeat (first | apply Kd.R_alloc | apply Kd.R_drewN | apply Kd.R_drew));exact HO_8.out))) (below_size (by repeat (first | (with_reducible first | exact HB.out | apply below_alloc | apply pw_below_drewN | apply below_drew1 | refine below_set ?_ GE264.out) | exact HB.out))));have n3_ := Aside0.mk (blk_below (g := gb264) (o := .cells #[.string a2_0,.string a2_1,.int .i64 a2_2,.int .i64 a2_3] 41 (0,0)) (by (with_reducible repeat (first | refine blk_drewN ?_ _ | refine blk_drew ?_ | refine blk_alloc ?_ _));exact BK264.out) hb);have n4_ := Aside0.mk (below_step (by repeat (first | (with_reducible first | exact HB.out | apply below_alloc | apply pw_below_drewN | apply below_drew1 | refine below_set ?_ GE264.out) | exact HB.out)) hb);clear HO_7;clear HO_8;clear BK264;clear HB;have HO_7 := n0_;have HO_8 := n1_;have HO325 := n2_;have BK264 := n3_;have HB := n4_;clear n0_ n1_ n2_ n3_ n4_;(try clear hb);(try clear hb2);(try clear hk);(try clear hi);(try clear ho0)) | (go_at_call 39;(with_reducible refine (steelyardkeep_Bare.calls kj130 _ _ l1 t326 _ ?side1 ?side2 A147.out).mono ?_);(case side1 => repeat (first | exact (Kd.C_below HR1.out HB.out) | (with_reducible refine Kd.C_alloc ?_ _) | (with_reducible refine Kd.C_drewN ?_ _) | (with_reducible refine Kd.C_drew ?_)));(case side2 => exact HC1.out);rintro e w177 ⟨v327,rfl,ho0,hb⟩;have n0_ := Aside0.mk (Kd.R_elder' (by (with_reducible repeat (first | apply Kd.R_alloc | apply Kd.R_drewN | apply Kd.R_drew));exact HO_7.out) (Kd.R_base ho0) hb);have n1_ := Aside0.mk (Kd.R_elder' (by (with_reducible repeat (first | apply Kd.R_alloc | apply Kd.R_drewN | apply Kd.R_drew));exact HO_8.out) (Kd.R_base ho0) hb);have n2_ := Aside0.mk (Kd.R_elder' (by (with_reducible repeat (first | apply Kd.R_alloc | apply Kd.R_drewN | apply Kd.R_drew));exact HO325.out) (Kd.R_base ho0) hb);have n3_ := Aside0.mk (Kd.R_lower (Kd.R_new' (Kd.R_new' (Kd.R_new' ho0 (Kd.R_lt (by (with_reducible repeat (first | apply Kd.R_alloc | apply Kd.R_drewN | apply Kd.R_drew));exact HO_7.out))) (Kd.R_lt (by (with_reducible repeat (first | apply Kd.R_alloc | apply Kd.R_drewN | apply Kd.R_drew));exact HO_8.out))) (Kd.R_lt (by (with_reducible repeat (first | apply Kd.R_alloc | apply Kd.R_drewN | apply Kd.R_drew));exact HO325.out))) (below_size (by repeat (first | (with_reducible first | exact HB.out | apply below_alloc | apply pw_below_drewN | apply below_drew1 | refine below_set ?_ GE264.out) | exact HB.out))));have n4_ := Aside0.mk (blk_below (g := gb264) (o := .cells #[.string a2_0,.string a2_1,.int .i64 a2_2,.int .i64 a2_3] 41 (0,0)) (by (with_reducible repeat (first | refine blk_drewN ?_ _ | refine blk_drew ?_ | refine blk_alloc ?_ _));exact BK264.out) hb);have n5_ := Aside0.mk (below_step (by repeat (first | (with_reducible first | exact HB.out | apply below_alloc | apply pw_below_drewN | apply below_drew1 | refine below_set ?_ GE264.out) | exact HB.out)) hb);clear HO_7;clear HO_8;clear HO325;clear BK264;clear HB;have HO_7 := n0_;have HO_8 := n1_;have HO325 := n2_;have HO328 := n3_;have BK264 := n4_;have HB := n5_;clear n0_ n1_ n2_ n3_ n4_ n5_;(try clear hb);(try clear hb2);(try clear hk);(try clear hi);(try clear ho0);obtain ⟨Ao178,co178,eo178⟩ := Kd.R_slice HO325.out;subst eo178;obtain ⟨Ao179,co179,eo179⟩ := Kd.R_slice HO328.out;subst eo179) | (go_at_call 33;(with_reducible refine (steelyardkeep_Tree.calls kj130 _ _ t323 _ _ t326 t329 _ ?side1 ?side2 ?side3 ?side4 A148.out).mono ?_);(case side1 => repeat (first | exact (Kd.R_reads' HO325.out).2.2 | (with_reducible refine Kd.C_alloc ?_ _) | (with_reducible refine Kd.C_drewN ?_ _) | (with_reducible refine Kd.C_drew ?_)));(case side2 => exact (Kd.R_reads' HO325.out).2.1);(case side3 => repeat (first | exact (Kd.R_reads' HO328.out).2.2 | (with_reducible refine Kd.C_alloc ?_ _) | (with_reducible refine Kd.C_drewN ?_ _) | (with_reducible refine Kd.C_drew ?_)));(case side4 => exact (Kd.R_reads' HO328.out).2.1);rintro e w' ⟨rfl,⟨nd,rfl⟩⟩) | (go_at_call 33;(with_reducible refine (steelyardkeep_Tree.calls kj130 _ _ t268 _ _ l0 false _ ?side1 ?side2 ?side3 ?side4 A150.out).mono ?_);(case side1 => repeat (first | exact (Kd.R_reads' HO_7.out).2.2 | (with_reducible refine Kd.C_alloc ?_ _) | (with_reducible refine Kd.C_drewN ?_ _) | (with_reducible refine Kd.C_drew ?_)));(case side2 => exact (Kd.R_reads' HO_7.out).2.1);(case side3 => repeat (first | exact (Kd.C_below HR0.out (by repeat (first | (with_reducible first | exact HB.out | apply below_alloc | apply pw_below_drewN | apply below_drew1 | refine below_set ?_ GE264.out) | exact HB.out))) | (with_reducible refine Kd.C_alloc ?_ _) | (with_reducible refine Kd.C_drewN ?_ _) | (with_reducible refine Kd.C_drew ?_)));(case side4 => exact HC0.out);rintro e w' ⟨rfl,⟨nd,rfl⟩⟩))
             go_ret
             exact ⟨by first | rfl | (simp [errW_none,errW_some] <;> rfl) | (simp [*,errW_none,errW_some] <;> rfl),by repeat (first | (with_reducible first | exact HB.out | apply below_alloc | apply pw_below_drewN | apply below_drew1 | refine below_set ?_ GE264.out) | exact HB.out)⟩
           ·rw [if_neg c149] at H
            have c149b0 : (t322 == t329) = false := by simpa using c149
            (try (have c149b1 : decide (t322 = t329) = false := by simpa using c149))
            (try (have c149b2 : (t322 == t329) = false := by simpa using c149))
            (try (have c149b3 : ¬ (t322 = t329) := by simpa using c149))
            clear c149
            obtain rfl := Option.some.inj H
            go_wp2_with (first | ((with_reducible refine gate_callee (f := 36) rfl ?_);refine goesL_ (some 178) rfl rfl Tryd.func36 (by kernel_rfl) rfl #[.slice Ao43 t268.length co43] rfl (by (try simp only [List.map_toArray,List.map_cons,List.map_nil]);first | done | rfl | (simp only [List.length_drop,List.length_take];rfl)) ?_;(with_reducible refine (tree_Good.calls kj130 _ _ t268 t319 _ ?side1 ?side2 A140.out ?sideG_).mono ?_);(case sideG_ => (first | (with_reducible exact HG_.out) | exact HG_.out.below (by repeat (first | (with_reducible first | exact HB.out | apply below_alloc | apply pw_below_drewN | apply below_drew1 | refine below_set ?_ GE264.out) | exact HB.out))));(case side1 => repeat (first | exact (Kd.R_reads' HO_7.out).2.2 | (with_reducible refine Kd.C_alloc ?_ _) | (with_reducible refine Kd.C_drewN ?_ _) | (with_reducible refine Kd.C_drew ?_)));(case side2 => exact (Kd.R_reads' HO_7.out).2.1);rintro e w180 ⟨rfl,hb⟩;refine ⟨_,rfl,?_⟩;have n0_ := Aside0.mk (Kd.R_below (by (with_reducible repeat (first | apply Kd.R_alloc | apply Kd.R_drewN | apply Kd.R_drew));exact HO_7.out) hb);have n1_ := Aside0.mk (Kd.R_below (by (with_reducible repeat (first | apply Kd.R_alloc | apply Kd.R_drewN | apply Kd.R_drew));exact HO_8.out) hb);have n2_ := Aside0.mk (blk_below (g := gb264) (o := .cells #[.string a2_0,.string a2_1,.int .i64 a2_2,.int .i64 a2_3] 41 (0,0)) (by (with_reducible repeat (first | refine blk_drewN ?_ _ | refine blk_drew ?_ | refine blk_alloc ?_ _));exact BK264.out) hb);have n3_ := Aside0.mk (below_step (by repeat (first | (with_reducible first | exact HB.out | apply below_alloc | apply pw_below_drewN | apply below_drew1 | refine below_set ?_ GE264.out) | exact HB.out)) hb);clear HO_7;clear HO_8;clear BK264;clear HB;have HO_7 := n0_;have HO_8 := n1_;have BK264 := n2_;have HB := n3_;clear n0_ n1_ n2_ n3_;(try clear hb);(try clear hb2);(try clear hk);(try clear hi)) | ((with_reducible refine gate_callee (f := 34) rfl ?_);refine goesL_ (some 180) rfl rfl Tryd.func34 (by kernel_rfl) rfl #[.slice A0 l0.length c0] rfl (by (try simp only [List.map_toArray,List.map_cons,List.map_nil]);first | done | rfl | (simp only [List.length_drop,List.length_take];rfl)) ?_;(with_reducible refine (steelyardref14_Good.calls _ _ l0 t320 _ ?side1 ?side2 A141.out).mono ?_);(case side1 => repeat (first | exact (Kd.C_below HR0.out HB.out) | (with_reducible refine Kd.C_alloc ?_ _) | (with_reducible refine Kd.C_drewN ?_ _) | (with_reducible refine Kd.C_drew ?_)));(case side2 => exact HC0.out);rintro e w181 ⟨rfl,hb⟩;refine ⟨_,rfl,?_⟩;have n0_ := Aside0.mk (Kd.R_below (by (with_reducible repeat (first | apply Kd.R_alloc | apply Kd.R_drewN | apply Kd.R_drew));exact HO_7.out) hb);have n1_ := Aside0.mk (Kd.R_below (by (with_reducible repeat (first | apply Kd.R_alloc | apply Kd.R_drewN | apply Kd.R_drew));exact HO_8.out) hb);have n2_ := Aside0.mk (blk_below (g := gb264) (o := .cells #[.string a2_0,.string a2_1,.int .i64 a2_2,.int .i64 a2_3] 41 (0,0)) (by (with_reducible repeat (first | refine blk_drewN ?_ _ | refine blk_drew ?_ | refine blk_alloc ?_ _));exact BK264.out) hb);have n3_ := Aside0.mk (below_step (by repeat (first | (with_reducible first | exact HB.out | apply below_alloc | apply pw_below_drewN | apply below_drew1 | refine below_set ?_ GE264.out) | exact HB.out)) hb);clear HO_7;clear HO_8;clear BK264;clear HB;have HO_7 := n0_;have HO_8 := n1_;have BK264 := n2_;have HB := n3_;clear n0_ n1_ n2_ n3_;(try clear hb);(try clear hb2);(try clear hk);(try clear hi)) | (go_at_call 37;(with_reducible refine (tree_Deep.calls kj130 _ _ t268 t321 _ ?side1 ?side2 A143.out ?sideG_).mono ?_);(case sideG_ => (first | (with_reducible exact HG_.out) | exact HG_.out.below (by repeat (first | (with_reducible first | exact HB.out | apply below_alloc | apply pw_below_drewN | apply below_drew1 | refine below_set ?_ GE264.out) | exact HB.out))));(case side1 => repeat (first | exact (Kd.R_reads' HO_7.out).2.2 | (with_reducible refine Kd.C_alloc ?_ _) | (with_reducible refine Kd.C_drewN ?_ _) | (with_reducible refine Kd.C_drew ?_)));(case side2 => exact (Kd.R_reads' HO_7.out).2.1);rintro e w182 ⟨rfl,hb⟩;have n0_ := Aside0.mk (Kd.R_below (by (with_reducible repeat (first | apply Kd.R_alloc | apply Kd.R_drewN | apply Kd.R_drew));exact HO_7.out) hb);have n1_ := Aside0.mk (Kd.R_below (by (with_reducible repeat (first | apply Kd.R_alloc | apply Kd.R_drewN | apply Kd.R_drew));exact HO_8.out) hb);have n2_ := Aside0.mk (blk_below (g := gb264) (o := .cells #[.string a2_0,.string a2_1,.int .i64 a2_2,.int .i64 a2_3] 41 (0,0)) (by (with_reducible repeat (first | refine blk_drewN ?_ _ | refine blk_drew ?_ | refine blk_alloc ?_ _));exact BK264.out) hb);have n3_ := Aside0.mk (below_step (by repeat (first | (with_reducible first | exact HB.out | apply below_alloc | apply pw_below_drewN | apply below_drew1 | refine below_set ?_ GE264.out) | exact HB.out)) hb);clear HO_7;clear HO_8;clear BK264;clear HB;have HO_7 := n0_;have HO_8 := n1_;have BK264 := n2_;have HB := n3_;clear n0_ n1_ n2_ n3_;(try clear hb);(try clear hb2);(try clear hk);(try clear hi)) | (go_at_call 38;(with_reducible refine (tree_Same.calls _ _ t268 _ _ t271 t322 _ ?side1 ?side2 ?side3 ?side4 A145.out).mono ?_);(case side1 => repeat (first | exact (Kd.R_reads' HO_7.out).2.2 | (with_reducible refine Kd.C_alloc ?_ _) | (with_reducible refine Kd.C_drewN ?_ _) | (with_reducible refine Kd.C_drew ?_)));(case side2 => exact (Kd.R_reads' HO_7.out).2.1);(case side3 => repeat (first | exact (Kd.R_reads' HO_8.out).2.2 | (with_reducible refine Kd.C_alloc ?_ _) | (with_reducible refine Kd.C_drewN ?_ _) | (with_reducible refine Kd.C_drew ?_)));(case side4 => exact (Kd.R_reads' HO_8.out).2.1);rintro e w183 ⟨rfl,hb⟩;have n0_ := Aside0.mk (Kd.R_below (by (with_reducible repeat (first | apply Kd.R_alloc | apply Kd.R_drewN | apply Kd.R_drew));exact HO_7.out) hb);have n1_ := Aside0.mk (Kd.R_below (by (with_reducible repeat (first | apply Kd.R_alloc | apply Kd.R_drewN | apply Kd.R_drew));exact HO_8.out) hb);have n2_ := Aside0.mk (blk_below (g := gb264) (o := .cells #[.string a2_0,.string a2_1,.int .i64 a2_2,.int .i64 a2_3] 41 (0,0)) (by (with_reducible repeat (first | refine blk_drewN ?_ _ | refine blk_drew ?_ | refine blk_alloc ?_ _));exact BK264.out) hb);have n3_ := Aside0.mk (below_step (by repeat (first | (with_reducible first | exact HB.out | apply below_alloc | apply pw_below_drewN | apply below_drew1 | refine below_set ?_ GE264.out) | exact HB.out)) hb);clear HO_7;clear HO_8;clear BK264;clear HB;have HO_7 := n0_;have HO_8 := n1_;have BK264 := n2_;have HB := n3_;clear n0_ n1_ n2_ n3_;(try clear hb);(try clear hb2);(try clear hk);(try clear hi)) | (go_at_call 39;(with_reducible refine (steelyardkeep_Bare.calls kj130 _ _ l0 t323 _ ?side1 ?side2 A146.out).mono ?_);(case side1 => repeat (first | exact (Kd.C_below HR0.out HB.out) | (with_reducible refine Kd.C_alloc ?_ _) | (with_reducible refine Kd.C_drewN ?_ _) | (with_reducible refine Kd.C_drew ?_)));(case side2 => exact HC0.out);rintro e w184 ⟨v324,rfl,ho0,hb⟩;have n0_ := Aside0.mk (Kd.R_elder' (by (with_reducible repeat (first | apply Kd.R_alloc | apply Kd.R_drewN | apply Kd.R_drew));exact HO_7.out) (Kd.R_base ho0) hb);have n1_ := Aside0.mk (Kd.R_elder' (by (with_reducible repeat (first | apply Kd.R_alloc | apply Kd.R_drewN | apply Kd.R_drew));exact HO_8.out) (Kd.R_base ho0) hb);have n2_ := Aside0.mk (Kd.R_lower (Kd.R_new' (Kd.R_new' ho0 (Kd.R_lt (by (with_reducible repeat (first | apply Kd.R_alloc | apply Kd.R_drewN | apply Kd.R_drew));exact HO_7.out))) (Kd.R_lt (by (with_reducible repeat (first | apply Kd.R_alloc | apply Kd.R_drewN | apply Kd.R_drew));exact HO_8.out))) (below_size (by repeat (first | (with_reducible first | exact HB.out | apply below_alloc | apply pw_below_drewN | apply below_drew1 | refine below_set ?_ GE264.out) | exact HB.out))));have n3_ := Aside0.mk (blk_below (g := gb264) (o := .cells #[.string a2_0,.string a2_1,.int .i64 a2_2,.int .i64 a2_3] 41 (0,0)) (by (with_reducible repeat (first | refine blk_drewN ?_ _ | refine blk_drew ?_ | refine blk_alloc ?_ _));exact BK264.out) hb);have n4_ := Aside0.mk (below_step (by repeat (first | (with_reducible first | exact HB.out | apply below_alloc | apply pw_below_drewN | apply below_drew1 | refine below_set ?_ GE264.out) | exact HB.out)) hb);clear HO_7;clear HO_8;clear BK264;clear HB;have HO_7 := n0_;have HO_8 := n1_;have HO325 := n2_;have BK264 := n3_;have HB := n4_;clear n0_ n1_ n2_ n3_ n4_;(try clear hb);(try clear hb2);(try clear hk);(try clear hi);(try clear ho0)) | (go_at_call 39;(with_reducible refine (steelyardkeep_Bare.calls kj130 _ _ l1 t326 _ ?side1 ?side2 A147.out).mono ?_);(case side1 => repeat (first | exact (Kd.C_below HR1.out HB.out) | (with_reducible refine Kd.C_alloc ?_ _) | (with_reducible refine Kd.C_drewN ?_ _) | (with_reducible refine Kd.C_drew ?_)));(case side2 => exact HC1.out);rintro e w185 ⟨v327,rfl,ho0,hb⟩;have n0_ := Aside0.mk (Kd.R_elder' (by (with_reducible repeat (first | apply Kd.R_alloc | apply Kd.R_drewN | apply Kd.R_drew));exact HO_7.out) (Kd.R_base ho0) hb);have n1_ := Aside0.mk (Kd.R_elder' (by (with_reducible repeat (first | apply Kd.R_alloc | apply Kd.R_drewN | apply Kd.R_drew));exact HO_8.out) (Kd.R_base ho0) hb);have n2_ := Aside0.mk (Kd.R_elder' (by (with_reducible repeat (first | apply Kd.R_alloc | apply Kd.R_drewN | apply Kd.R_drew));exact HO325.out) (Kd.R_base ho0) hb);have n3_ := Aside0.mk (Kd.R_lower (Kd.R_new' (Kd.R_new' (Kd.R_new' ho0 (Kd.R_lt (by (with_reducible repeat (first | apply Kd.R_alloc | apply Kd.R_drewN | apply Kd.R_drew));exact HO_7.out))) (Kd.R_lt (by (with_reducible repeat (first | apply Kd.R_alloc | apply Kd.R_drewN | apply Kd.R_drew));exact HO_8.out))) (Kd.R_lt (by (with_reducible repeat (first | apply Kd.R_alloc | apply Kd.R_drewN | apply Kd.R_drew));exact HO325.out))) (below_size (by repeat (first | (with_reducible first | exact HB.out | apply below_alloc | apply pw_below_drewN | apply below_drew1 | refine below_set ?_ GE264.out) | exact HB.out))));have n4_ := Aside0.mk (blk_below (g := gb264) (o := .cells #[.string a2_0,.string a2_1,.int .i64 a2_2,.int .i64 a2_3] 41 (0,0)) (by (with_reducible repeat (first | refine blk_drewN ?_ _ | refine blk_drew ?_ | refine blk_alloc ?_ _));exact BK264.out) hb);have n5_ := Aside0.mk (below_step (by repeat (first | (with_reducible first | exact HB.out | apply below_alloc | apply pw_below_drewN | apply below_drew1 | refine below_set ?_ GE264.out) | exact HB.out)) hb);clear HO_7;clear HO_8;clear HO325;clear BK264;clear HB;have HO_7 := n0_;have HO_8 := n1_;have HO325 := n2_;have HO328 := n3_;have BK264 := n4_;have HB := n5_;clear n0_ n1_ n2_ n3_ n4_ n5_;(try clear hb);(try clear hb2);(try clear hk);(try clear hi);(try clear ho0);obtain ⟨Ao186,co186,eo186⟩ := Kd.R_slice HO325.out;subst eo186;obtain ⟨Ao187,co187,eo187⟩ := Kd.R_slice HO328.out;subst eo187) | (go_at_call 33;(with_reducible refine (steelyardkeep_Tree.calls kj130 _ _ t323 _ _ t326 t329 _ ?side1 ?side2 ?side3 ?side4 A148.out).mono ?_);(case side1 => repeat (first | exact (Kd.R_reads' HO325.out).2.2 | (with_reducible refine Kd.C_alloc ?_ _) | (with_reducible refine Kd.C_drewN ?_ _) | (with_reducible refine Kd.C_drew ?_)));(case side2 => exact (Kd.R_reads' HO325.out).2.1);(case side3 => repeat (first | exact (Kd.R_reads' HO328.out).2.2 | (with_reducible refine Kd.C_alloc ?_ _) | (with_reducible refine Kd.C_drewN ?_ _) | (with_reducible refine Kd.C_drew ?_)));(case side4 => exact (Kd.R_reads' HO328.out).2.1);rintro e w' ⟨rfl,⟨nd,rfl⟩⟩))
            go_ret
            exact ⟨by first | rfl | (simp [errW_none,errW_some] <;> rfl) | (simp [*,errW_none,errW_some] <;> rfl),by repeat (first | (with_reducible first | exact HB.out | apply below_alloc | apply pw_below_drewN | apply below_drew1 | refine below_set ?_ GE264.out) | exact HB.out)⟩
          ·rw [if_neg c144] at H
           have c144b0 : (t321 == x24_130) = false := beq_eq_false_iff_ne.mpr c144
           have c144b1 : (t321 != x24_130) = true := bne_iff_ne.mpr c144
           obtain rfl := Option.some.inj H
           go_wp2_with (first | ((with_reducible refine gate_callee (f := 36) rfl ?_);refine goesL_ (some 178) rfl rfl Tryd.func36 (by kernel_rfl) rfl #[.slice Ao43 t268.length co43] rfl (by (try simp only [List.map_toArray,List.map_cons,List.map_nil]);first | done | rfl | (simp only [List.length_drop,List.length_take];rfl)) ?_;(with_reducible refine (tree_Good.calls kj130 _ _ t268 t319 _ ?side1 ?side2 A140.out ?sideG_).mono ?_);(case sideG_ => (first | (with_reducible exact HG_.out) | exact HG_.out.below (by repeat (first | (with_reducible first | exact HB.out | apply below_alloc | apply pw_below_drewN | apply below_drew1 | refine below_set ?_ GE264.out) | exact HB.out))));(case side1 => repeat (first | exact (Kd.R_reads' HO_7.out).2.2 | (with_reducible refine Kd.C_alloc ?_ _) | (with_reducible refine Kd.C_drewN ?_ _) | (with_reducible refine Kd.C_drew ?_)));(case side2 => exact (Kd.R_reads' HO_7.out).2.1);rintro e w188 ⟨rfl,hb⟩;refine ⟨_,rfl,?_⟩;have n0_ := Aside0.mk (Kd.R_below (by (with_reducible repeat (first | apply Kd.R_alloc | apply Kd.R_drewN | apply Kd.R_drew));exact HO_7.out) hb);have n1_ := Aside0.mk (Kd.R_below (by (with_reducible repeat (first | apply Kd.R_alloc | apply Kd.R_drewN | apply Kd.R_drew));exact HO_8.out) hb);have n2_ := Aside0.mk (blk_below (g := gb264) (o := .cells #[.string a2_0,.string a2_1,.int .i64 a2_2,.int .i64 a2_3] 41 (0,0)) (by (with_reducible repeat (first | refine blk_drewN ?_ _ | refine blk_drew ?_ | refine blk_alloc ?_ _));exact BK264.out) hb);have n3_ := Aside0.mk (below_step (by repeat (first | (with_reducible first | exact HB.out | apply below_alloc | apply pw_below_drewN | apply below_drew1 | refine below_set ?_ GE264.out) | exact HB.out)) hb);clear HO_7;clear HO_8;clear BK264;clear HB;have HO_7 := n0_;have HO_8 := n1_;have BK264 := n2_;have HB := n3_;clear n0_ n1_ n2_ n3_;(try clear hb);(try clear hb2);(try clear hk);(try clear hi)) | ((with_reducible refine gate_callee (f := 34) rfl ?_);refine goesL_ (some 180) rfl rfl Tryd.func34 (by kernel_rfl) rfl #[.slice A0 l0.length c0] rfl (by (try simp only [List.map_toArray,List.map_cons,List.map_nil]);first | done | rfl | (simp only [List.length_drop,List.length_take];rfl)) ?_;(with_reducible refine (steelyardref14_Good.calls _ _ l0 t320 _ ?side1 ?side2 A141.out).mono ?_);(case side1 => repeat (first | exact (Kd.C_below HR0.out HB.out) | (with_reducible refine Kd.C_alloc ?_ _) | (with_reducible refine Kd.C_drewN ?_ _) | (with_reducible refine Kd.C_drew ?_)));(case side2 => exact HC0.out);rintro e w189 ⟨rfl,hb⟩;refine ⟨_,rfl,?_⟩;have n0_ := Aside0.mk (Kd.R_below (by (with_reducible repeat (first | apply Kd.R_alloc | apply Kd.R_drewN | apply Kd.R_drew));exact HO_7.out) hb);have n1_ := Aside0.mk (Kd.R_below (by (with_reducible repeat (first | apply Kd.R_alloc | apply Kd.R_drewN | apply Kd.R_drew));exact HO_8.out) hb);have n2_ := Aside0.mk (blk_below (g := gb264) (o := .cells #[.string a2_0,.string a2_1,.int .i64 a2_2,.int .i64 a2_3] 41 (0,0)) (by (with_reducible repeat (first | refine blk_drewN ?_ _ | refine blk_drew ?_ | refine blk_alloc ?_ _));exact BK264.out) hb);have n3_ := Aside0.mk (below_step (by repeat (first | (with_reducible first | exact HB.out | apply below_alloc | apply pw_below_drewN | apply below_drew1 | refine below_set ?_ GE264.out) | exact HB.out)) hb);clear HO_7;clear HO_8;clear BK264;clear HB;have HO_7 := n0_;have HO_8 := n1_;have BK264 := n2_;have HB := n3_;clear n0_ n1_ n2_ n3_;(try clear hb);(try clear hb2);(try clear hk);(try clear hi)) | (go_at_call 37;(with_reducible refine (tree_Deep.calls kj130 _ _ t268 t321 _ ?side1 ?side2 A143.out ?sideG_).mono ?_);(case sideG_ => (first | (with_reducible exact HG_.out) | exact HG_.out.below (by repeat (first | (with_reducible first | exact HB.out | apply below_alloc | apply pw_below_drewN | apply below_drew1 | refine below_set ?_ GE264.out) | exact HB.out))));(case side1 => repeat (first | exact (Kd.R_reads' HO_7.out).2.2 | (with_reducible refine Kd.C_alloc ?_ _) | (with_reducible refine Kd.C_drewN ?_ _) | (with_reducible refine Kd.C_drew ?_)));(case side2 => exact (Kd.R_reads' HO_7.out).2.1);rintro e w190 ⟨rfl,hb⟩;have n0_ := Aside0.mk (Kd.R_below (by (with_reducible repeat (first | apply Kd.R_alloc | apply Kd.R_drewN | apply Kd.R_drew));exact HO_7.out) hb);have n1_ := Aside0.mk (Kd.R_below (by (with_reducible repeat (first | apply Kd.R_alloc | apply Kd.R_drewN | apply Kd.R_drew));exact HO_8.out) hb);have n2_ := Aside0.mk (blk_below (g := gb264) (o := .cells #[.string a2_0,.string a2_1,.int .i64 a2_2,.int .i64 a2_3] 41 (0,0)) (by (with_reducible repeat (first | refine blk_drewN ?_ _ | refine blk_drew ?_ | refine blk_alloc ?_ _));exact BK264.out) hb);have n3_ := Aside0.mk (below_step (by repeat (first | (with_reducible first | exact HB.out | apply below_alloc | apply pw_below_drewN | apply below_drew1 | refine below_set ?_ GE264.out) | exact HB.out)) hb);clear HO_7;clear HO_8;clear BK264;clear HB;have HO_7 := n0_;have HO_8 := n1_;have BK264 := n2_;have HB := n3_;clear n0_ n1_ n2_ n3_;(try clear hb);(try clear hb2);(try clear hk);(try clear hi)))
           go_ret
           exact ⟨by first | rfl | (simp [errW_none,errW_some] <;> rfl) | (simp [*,errW_none,errW_some] <;> rfl),by repeat (first | (with_reducible first | exact HB.out | apply below_alloc | apply pw_below_drewN | apply below_drew1 | refine below_set ?_ GE264.out) | exact HB.out)⟩
         ·rw [if_neg c142] at H
          have c142b0 : (t319 == t320) = false := by simpa using c142
          (try (have c142b1 : decide (t319 = t320) = false := by simpa using c142))
          (try (have c142b2 : (t319 == t320) = false := by simpa using c142))
          (try (have c142b3 : ¬ (t319 = t320) := by simpa using c142))
          clear c142
          obtain rfl := Option.some.inj H
          go_wp2_with (first | ((with_reducible refine gate_callee (f := 36) rfl ?_);refine goesL_ (some 178) rfl rfl Tryd.func36 (by kernel_rfl) rfl #[.slice Ao43 t268.length co43] rfl (by (try simp only [List.map_toArray,List.map_cons,List.map_nil]);first | done | rfl | (simp only [List.length_drop,List.length_take];rfl)) ?_;(with_reducible refine (tree_Good.calls kj130 _ _ t268 t319 _ ?side1 ?side2 A140.out ?sideG_).mono ?_);(case sideG_ => (first | (with_reducible exact HG_.out) | exact HG_.out.below (by repeat (first | (with_reducible first | exact HB.out | apply below_alloc | apply pw_below_drewN | apply below_drew1 | refine below_set ?_ GE264.out) | exact HB.out))));(case side1 => repeat (first | exact (Kd.R_reads' HO_7.out).2.2 | (with_reducible refine Kd.C_alloc ?_ _) | (with_reducible refine Kd.C_drewN ?_ _) | (with_reducible refine Kd.C_drew ?_)));(case side2 => exact (Kd.R_reads' HO_7.out).2.1);rintro e w191 ⟨rfl,hb⟩;refine ⟨_,rfl,?_⟩;have n0_ := Aside0.mk (Kd.R_below (by (with_reducible repeat (first | apply Kd.R_alloc | apply Kd.R_drewN | apply Kd.R_drew));exact HO_7.out) hb);have n1_ := Aside0.mk (Kd.R_below (by (with_reducible repeat (first | apply Kd.R_alloc | apply Kd.R_drewN | apply Kd.R_drew));exact HO_8.out) hb);have n2_ := Aside0.mk (blk_below (g := gb264) (o := .cells #[.string a2_0,.string a2_1,.int .i64 a2_2,.int .i64 a2_3] 41 (0,0)) (by (with_reducible repeat (first | refine blk_drewN ?_ _ | refine blk_drew ?_ | refine blk_alloc ?_ _));exact BK264.out) hb);have n3_ := Aside0.mk (below_step (by repeat (first | (with_reducible first | exact HB.out | apply below_alloc | apply pw_below_drewN | apply below_drew1 | refine below_set ?_ GE264.out) | exact HB.out)) hb);clear HO_7;clear HO_8;clear BK264;clear HB;have HO_7 := n0_;have HO_8 := n1_;have BK264 := n2_;have HB := n3_;clear n0_ n1_ n2_ n3_;(try clear hb);(try clear hb2);(try clear hk);(try clear hi)) | ((with_reducible refine gate_callee (f := 34) rfl ?_);refine goesL_ (some 180) rfl rfl Tryd.func34 (by kernel_rfl) rfl #[.slice A0 l0.length c0] rfl (by (try simp only [List.map_toArray,List.map_cons,List.map_nil]);first | done | rfl | (simp only [List.length_drop,List.length_take];rfl)) ?_;(with_reducible refine (steelyardref14_Good.calls _ _ l0 t320 _ ?side1 ?side2 A141.out).mono ?_);(case side1 => repeat (first | exact (Kd.C_below HR0.out HB.out) | (with_reducible refine Kd.C_alloc ?_ _) | (with_reducible refine Kd.C_drewN ?_ _) | (with_reducible refine Kd.C_drew ?_)));(case side2 => exact HC0.out);rintro e w192 ⟨rfl,hb⟩;refine ⟨_,rfl,?_⟩;have n0_ := Aside0.mk (Kd.R_below (by (with_reducible repeat (first | apply Kd.R_alloc | apply Kd.R_drewN | apply Kd.R_drew));exact HO_7.out) hb);have n1_ := Aside0.mk (Kd.R_below (by (with_reducible repeat (first | apply Kd.R_alloc | apply Kd.R_drewN | apply Kd.R_drew));exact HO_8.out) hb);have n2_ := Aside0.mk (blk_below (g := gb264) (o := .cells #[.string a2_0,.string a2_1,.int .i64 a2_2,.int .i64 a2_3] 41 (0,0)) (by (with_reducible repeat (first | refine blk_drewN ?_ _ | refine blk_drew ?_ | refine blk_alloc ?_ _));exact BK264.out) hb);have n3_ := Aside0.mk (below_step (by repeat (first | (with_reducible first | exact HB.out | apply below_alloc | apply pw_below_drewN | apply below_drew1 | refine below_set ?_ GE264.out) | exact HB.out)) hb);clear HO_7;clear HO_8;clear BK264;clear HB;have HO_7 := n0_;have HO_8 := n1_;have BK264 := n2_;have HB := n3_;clear n0_ n1_ n2_ n3_;(try clear hb);(try clear hb2);(try clear hk);(try clear hi)))
          go_ret
          exact ⟨by first | rfl | (simp [errW_none,errW_some] <;> rfl) | (simp [*,errW_none,errW_some] <;> rfl),by repeat (first | (with_reducible first | exact HB.out | apply below_alloc | apply pw_below_drewN | apply below_drew1 | refine below_set ?_ GE264.out) | exact HB.out)⟩
end Go.Proofs.YtcajdkncohcaeaaDoor.GTree
