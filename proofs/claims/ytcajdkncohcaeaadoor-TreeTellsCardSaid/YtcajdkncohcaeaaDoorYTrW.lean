import Derived.Test.YtcajdkncohcaeaaDoorYTrU
import Derived.Test.YtcajdkncohcaeaaDoorYGTree7
namespace Go.Proofs.YtcajdkncohcaeaaDoor
set_option linter.unusedVariables false
set_option linter.unusedSimpArgs false
open Go.RowKit Go.Proofs.YtcajdkncohcaeaaDoorW.PrintWords Go.Proofs.YtcajdkncohcaeaaDoorW.PrintMore
open GTree (S52 k52 rd_T52)
namespace GTree
def wholeT (L : List S52) : List S52 := if goodT L = true then L else []
theorem whole_eq (L : List S52) (hL : L.length < 1000000) (hS : okS L) : steelyardref14_whole.f L = some (wholeT L) := by
 unfold steelyardref14_whole.f wholeT
 rw [refgood_eq L hL hS,Option.bind_some]
 split <;> rfl
/-- the program's answer and the reference's -/
def cmpT (X : List S52 × Bool) (Y : List S52) : Prop := X.1 = Y ∧ X.2 = decide ((Y.length : Int) > 0)
theorem cmp_told (T : List S52) : cmpT (toldT T) (wholeT T) := by
 unfold cmpT toldT wholeT
 by_cases h : goodT T = true
 ·have := ((goodT_iff T).1 h).1
  rw [if_pos h,if_pos h]
  exact ⟨rfl,(decide_eq_true (by omega)).symm⟩
 ·rw [if_neg h,if_neg h];exact ⟨rfl,rfl⟩
theorem cmp_if {c : Prop} [Decidable c] (T : List S52) : cmpT (if c then toldT T else ([],false)) (if c then wholeT T else []) := by
 by_cases h : c
 ·rw [if_pos h,if_pos h];exact cmp_told T
 ·rw [if_neg h,if_neg h];exact ⟨rfl,rfl⟩
theorem okS_one {x : S52} (h : x.f4.size ≤ 6000 ∧ x.f5.size ≤ 6000) : okS [x] := fun y hy => by rw [List.mem_singleton.1 hy];exact h
theorem refover_eq (a v : Int) (L : List S52) (hL : L.length ≤ 6000) (hS : okS L) : steelyardref14_Over.f L a v = some (if goodT L = true then wholeT (overT a v L) else []) := by
 unfold steelyardref14_Over.f
 rw [refgood_eq L (by omega) hS,Option.bind_some]
 by_cases g : goodT L = true
 ·have := (goodT_iff L).1 g
  rw [if_pos g,if_pos g,Option.bind_some,if_pos (by simp;omega),Option.bind_some,if_pos (by simp;omega),List.nil_append,wrapN (by omega) (by omega)]
  have := whole_eq (overT a v L) (by rw [overT_len];omega) (okS_over hS)
  unfold overT at this ⊢
  rw [this];rfl
 ·rw [if_neg g,if_neg g]
theorem wrap_both (i : Int) : IntKind.i64.wrap i = wrap64 i := by rw [IntKind.wrap_i64];unfold wrap64;rfl
theorem refjoin_loop (a : Int) (L M : List S52) (hM : M.length ≤ 6000) (C : Nat) : ∀ (d i : Nat) (acc : List S52),M.length - i = d → i ≤ M.length → acc.length + d ≤ 100000 →
 steelyardref14_Join.l0 (C + 2 * d) a L M acc (i : Int) = steelyardref14_Join.l0 C a L M (acc ++ (M.drop i).map (shS (L.length : Int))) (M.length : Int) := by
 intro d
 induction d with
 | zero =>
  intro i acc hd hi ha
  obtain rfl : i = M.length := by omega
  rw [List.drop_eq_nil_of_le (Nat.le_refl _),List.map_nil,List.append_nil];rfl
 | succ d ih =>
  intro i acc hd hi ha
  have hN := ih (i + 1) (acc ++ [shS (L.length : Int) (rd_T52 M (i : Int))]) (by omega) (by omega) (by simp;omega)
  rw [drop_rd M i (by omega),List.map_cons,show acc ++ (shS (L.length : Int) (rd_T52 M (i : Int)) :: (M.drop (i + 1)).map (shS (L.length : Int))) = (acc ++ [shS (L.length : Int) (rd_T52 M (i : Int))]) ++ (M.drop (i + 1)).map (shS (L.length : Int)) by simp,← hN]
  rw [show C + 2 * (d + 1) = (C + 2 * d) + 1 + 1 by omega,steelyardref14_Join.l0,if_pos (by omega),if_pos (by omega)]
  clear hN ih
  generalize rd_T52 M (i : Int) = x
  unfold shS
  rw [isTwo_eq,wrap_both,wrap_both]
  have hw := wrap_succ (i := (i : Int)) (by omega) (by omega)
  unfold steelyardref14_Two.f
  rw [Option.bind_some]
  by_cases h2 : twoK x.f0 = true
  ·rw [h2,if_pos rfl,if_pos rfl,steelyardref14_Join.j2,if_pos rfl]
   unfold steelyardref14_Two.f
   rw [Option.bind_some,h2,if_pos rfl,if_pos (by omega),hw];rfl
  ·have e2 : twoK x.f0 = false := Bool.eq_false_iff.2 h2
   rw [e2,if_neg (show ¬ (false = true) from by decide),if_neg (show ¬ (false = true) from by decide)]
   by_cases h7 : x.f0 = 7
   ·rw [if_pos h7,steelyardref14_Join.j2,if_pos rfl]
    unfold steelyardref14_Two.f
    rw [Option.bind_some,e2,if_neg (by decide),if_pos (by omega),hw,if_pos ((isOver_iff _).2 (.inl h7))];rfl
   ·rw [if_neg h7]
    by_cases h8 : x.f0 = 8
    ·rw [show (x.f0 == 8) = true from beq_iff_eq.2 h8,steelyardref14_Join.j2,if_pos rfl]
     unfold steelyardref14_Two.f
     rw [Option.bind_some,e2,if_neg (by decide),if_pos (by omega),hw,if_pos ((isOver_iff _).2 (.inr h8))];rfl
    ·rw [show (x.f0 == 8) = false from beq_eq_false_iff_ne.2 h8,steelyardref14_Join.j2,if_neg (by decide)]
     unfold steelyardref14_Two.f
     rw [Option.bind_some,e2,if_neg (by decide),if_pos (by omega),hw,if_neg (fun h => by have := (isOver_iff _).1 h;omega)];rfl
theorem refjoin_eq (a : Int) (L M : List S52) (hL : L.length ≤ 6000) (hM : M.length ≤ 6000) (hSL : okS L) (hSM : okS M) (k : Nat) (hk : 2 * M.length + 2 ≤ k) :
 steelyardref14_Join.f k a L M = some (if ((3 ≤ a ∧ a ≤ 6) ∧ goodT L = true ∧ goodT M = true) then wholeT (joinT a L M) else []) := by
 obtain ⟨k,rfl⟩ : ∃ m,k = m + 1 + 2 * M.length + 1 := ⟨k - 2 * M.length - 2,by omega⟩
 unfold steelyardref14_Join.f
 have hj : ∀ c,c = true → steelyardref14_Join.j0 (k + 1 + 2 * M.length + 1) a L M c = some [] := by rintro c rfl;rw [steelyardref14_Join.j0,if_pos rfl]
 rw [refgood_eq L (by omega) hSL,Option.bind_some]
 by_cases gL : goodT L = true
 ·rw [if_pos gL,refgood_eq M (by omega) hSM,Option.bind_some]
  by_cases gM : goodT M = true
  ·rw [if_pos gM]
   unfold steelyardref14_Two.f
   rw [Option.bind_some]
   by_cases h2 : twoK a = true
   ·rw [h2,steelyardref14_Join.j0,if_neg (by decide),Option.bind_some,if_pos (by simp;omega),List.nil_append,if_pos ⟨(twoK_iff _).1 h2,gL,gM⟩]
    have := refjoin_loop a L M hM (k + 1) M.length 0 L (by omega) (by omega) (by omega)
    rw [List.drop_zero] at this
    rw [show steelyardref14_Join.l0 (k + 1 + 2 * M.length) a L M L 0 = _ from this,steelyardref14_Join.l0,if_neg (by omega),if_pos (by simp;omega)]
    rw [wrapN (i := (L.length : Int) - 1) (by omega) (by omega),wrapN (i := (L.length : Int) + (M.length : Int)) (by omega) (by omega),wrapN (i := (L.length : Int) + (M.length : Int) - 1) (by omega) (by omega)]
    have hw := whole_eq (joinT a L M) (by rw [joinT_len];omega) (okS_join hSL hSM)
    unfold joinT sideT nodeT at hw ⊢
    rw [hw];rfl
   ·rw [if_neg (fun h => h2 ((twoK_iff _).2 h.1)),Bool.eq_false_iff.2 h2];exact hj _ rfl
  ·rw [if_neg gM,if_neg (fun h => gM h.2.2)];exact hj _ rfl
 ·rw [if_neg gL,if_neg (fun h => gL h.2.1)];exact hj _ rfl
def bareS (x : S52) : S52 := ⟨x.f0,x.f1,x.f2,x.f3,x.f4,x.f5,0⟩
theorem bare_loop : ∀ (M P : List S52) (k : Nat),P.length + M.length ≤ 100000 → M.length < k → steelyardkeep_Bare.l0 k (P ++ M) (P.length : Int) = some (P ++ M.map bareS)
 | [],P,k,_,hk => by
  obtain ⟨k,rfl⟩ : ∃ m,k = m + 1 := ⟨k - 1,by omega⟩
  rw [steelyardkeep_Bare.l0,if_neg (by simp),List.map_nil]
 | x :: M,P,k,hl,hk => by
  rw [List.length_cons] at hl hk
  obtain ⟨k,rfl⟩ : ∃ m,k = m + 1 := ⟨k - 1,by omega⟩
  have hx : rd_T52 (P ++ x :: M) (P.length : Int) = x := by
   unfold rd_T52;rw [Int.toNat_natCast,List.getD_eq_getElem?_getD,List.getElem?_append_right (Nat.le_refl _)];simp
  rw [steelyardkeep_Bare.l0,if_pos (by simp;omega),if_pos (by omega),hx,Int.toNat_natCast,List.set_append_right _ _ (Nat.le_refl _),Nat.sub_self,List.set_cons_zero,wrap_succ (by omega) (by omega)]
  have := bare_loop M (P ++ [bareS x]) k (by simp;omega) (by omega)
  rw [List.append_assoc,List.append_assoc,List.length_append,List.length_singleton] at this
  exact this
theorem own_eq (L : List S52) (h : L.length ≤ 100000) : steelyardkeep_OwnTree.f L = some L := by
 unfold steelyardkeep_OwnTree.f
 rw [Option.bind_some,if_pos (by simp;omega),List.nil_append]
theorem bare_eq (L : List S52) (h : L.length ≤ 100000) (k : Nat) (hk : L.length < k) : steelyardkeep_Bare.f k L = some (L.map bareS) := by
 unfold steelyardkeep_Bare.f
 rw [own_eq L h,Option.bind_some]
 exact bare_loop L [] k (by simpa using h) hk
theorem keep_bare : ∀ L M : List S52,keepL (L.map bareS) (M.map bareS) = sameL L M
 | [],_ => by unfold sameL;rfl
 | _ :: _,[] => by unfold sameL;rfl
 | x :: L,y :: M => by
  rw [List.map_cons,List.map_cons,show keepL (bareS x :: L.map bareS) (bareS y :: M.map bareS) = ((bareEq (bareS x) (bareS y) && (bareS x).f6 == (bareS y).f6) && keepL (L.map bareS) (M.map bareS)) from rfl,keep_bare L M,
   show ((bareS x).f6 == (bareS y).f6) = true from rfl,Bool.and_true]
  rfl
theorem lit_eq (a b : ByteArray) (ha : a.size ≤ 6000) (hb : b.size ≤ 6000) (k : Nat) (hk : 2 < k) : tree_Lit.f k a b = some (toldT [⟨1,0,0,0,a,b,0⟩]) := by
 unfold tree_Lit.f
 rw [told_eq _ (by simp) (okS_one ⟨ha,hb⟩) k hk];rfl
theorem ref_eq (a : ByteArray) (ha : a.size ≤ 6000) (k : Nat) (hk : 2 < k) : tree_Ref.f k a = some (toldT [⟨2,0,0,0,a,⟨#[]⟩,0⟩]) := by
 unfold tree_Ref.f
 rw [told_eq _ (by simp) (okS_one ⟨ha,Nat.zero_le _⟩) k hk];rfl
theorem leaf_eq (n : Int) (a b : ByteArray) (ha : a.size ≤ 6000) (hb : b.size ≤ 6000) : steelyardref14_Leaf.f n 0 0 0 a b 0 = some (wholeT [⟨n,0,0,0,a,b,0⟩]) := by
 unfold steelyardref14_Leaf.f
 rw [whole_eq _ (by simp) (okS_one ⟨ha,hb⟩)];rfl
theorem toldT_len (T : List S52) (n : Nat) (h : T.length ≤ n) : (toldT T).1.length ≤ n := by
 unfold toldT;split;exact h;exact Nat.zero_le _
/-- the comparisons of TreeTells -/
theorem tells_cmp {X : List S52 × Bool} {Y : List S52} (h : cmpT X Y) (hl : X.1.length ≤ 100000) (k : Nat) (hk : X.1.length < k) : steelyardkeep_Tree.f k X.1 Y = some true ∧ (X.2 != decide ((Y.length : Int) > 0)) = false := by
 obtain ⟨h1,h2⟩ := h
 rw [h2,← h1]
 exact ⟨keep_refl _ hl k hk,by simp⟩
theorem treeTells_pure (L M : List S52) (hL : L.length ≤ 9223372036854775807) (hM : M.length ≤ 9223372036854775807) (a b : ByteArray) (m v : Int) : ∃ k,steelyardlaw14_TreeTells.f k L M a b m v = some true := by
 obtain ⟨cb,hb,hbs⟩ := large_eq L hL (L.length + M.length + 60000 + 1 + 1 + 1) (by omega)
 obtain ⟨cc,hc,hcs⟩ := large_eq M hM (L.length + M.length + 60000 + 1 + 1 + 1) (by omega)
 refine ⟨L.length + M.length + 60000 + 1 + 1 + 1,?_⟩
 generalize hK : L.length + M.length + 60000 = K at *
 have hj0 : ∀ x,x = true → steelyardlaw14_TreeTells.j0 (K + 1 + 1 + 1) L M x a b m v = some true := by rintro x rfl;rw [steelyardlaw14_TreeTells.j0,if_pos rfl];rfl
 unfold steelyardlaw14_TreeTells.f
 rw [hb,Option.bind_some]
 cases cb with
 | true => rw [if_pos rfl];exact hj0 _ rfl
 | false =>
  obtain ⟨h6,hSL⟩ := hbs rfl
  rw [if_neg (by decide),hc,Option.bind_some]
  cases cc with
  | true => rw [if_pos rfl];exact hj0 _ rfl
  | false =>
   obtain ⟨h6',hSM⟩ := hcs rfl
   rw [if_neg (by decide)]
   by_cases sa : (a.size : Int) > 600
   ·rw [if_pos sa];exact hj0 _ rfl
   ·rw [if_neg sa]
    by_cases sb : (b.size : Int) > 600
    ·rw [decide_eq_true sb];exact hj0 _ rfl
    ·rw [decide_eq_false sb,steelyardlaw14_TreeTells.j0,if_neg (by decide),own_eq L (by omega),Option.bind_some,own_eq M (by omega),Option.bind_some,
      lit_eq a b (by omega) (by omega) _ (by omega),Option.bind_some,ref_eq a (by omega) _ (by omega),Option.bind_some,join_eq m L M h6 h6' hSL hSM _ (by omega),Option.bind_some,neg_eq L h6 hSL _ (by omega),Option.bind_some,pow_eq v L h6 hSL _ (by omega),Option.bind_some,
      leaf_eq 1 a b (by omega) (by omega),Option.bind_some,leaf_eq 2 a ⟨#[]⟩ (by omega) (Nat.zero_le _),Option.bind_some,refjoin_eq m L M h6 h6' hSL hSM _ (by omega),Option.bind_some,refover_eq 7 0 L h6 hSL,Option.bind_some,refover_eq 8 v L h6 hSL,Option.bind_some]
     obtain ⟨p1,q1⟩ := tells_cmp (cmp_told [⟨1,0,0,0,a,b,0⟩]) (Nat.le_trans (toldT_len _ 1 (by simp)) (by decide)) (K + 1 + 1) (by have := toldT_len [(⟨1,0,0,0,a,b,0⟩ : S52)] 1 (by simp);omega)
     obtain ⟨p2,q2⟩ := tells_cmp (cmp_told [⟨2,0,0,0,a,⟨#[]⟩,0⟩]) (Nat.le_trans (toldT_len _ 1 (by simp)) (by decide)) (K + 1 + 1) (by have := toldT_len [(⟨2,0,0,0,a,⟨#[]⟩,0⟩ : S52)] 1 (by simp);omega)
     have jl : (if ((3 ≤ m ∧ m ≤ 6) ∧ goodT L = true ∧ goodT M = true) then toldT (joinT m L M) else ([],false)).1.length ≤ 12001 := by
      split
      ·exact toldT_len _ _ (by rw [joinT_len];omega)
      ·exact Nat.zero_le _
     have nl : ∀ a v,(if goodT L = true then toldT (overT a v L) else ([],false)).1.length ≤ 6001 := fun a v => by
      split
      ·exact toldT_len _ _ (by rw [overT_len];omega)
      ·exact Nat.zero_le _
     obtain ⟨p3,q3⟩ := tells_cmp (cmp_if (c := (3 ≤ m ∧ m ≤ 6) ∧ goodT L = true ∧ goodT M = true) (joinT m L M)) (by omega) (K + 1 + 1) (by omega)
     obtain ⟨p4,q4⟩ := tells_cmp (cmp_if (c := goodT L = true) (overT 7 0 L)) (by have := nl 7 0;omega) (K + 1 + 1) (by have := nl 7 0;omega)
     obtain ⟨p5,q5⟩ := tells_cmp (cmp_if (c := goodT L = true) (overT 8 v L)) (by have := nl 8 v;omega) (K + 1 + 1) (by have := nl 8 v;omega)
     generalize toldT [(⟨1,0,0,0,a,b,0⟩ : S52)] = X1 at *
     generalize toldT [(⟨2,0,0,0,a,⟨#[]⟩,0⟩ : S52)] = X2 at *
     generalize (if ((3 ≤ m ∧ m ≤ 6) ∧ goodT L = true ∧ goodT M = true) then toldT (joinT m L M) else ([],false)) = X3 at *
     generalize (if goodT L = true then toldT (overT 7 0 L) else ([],false)) = X4 at *
     generalize (if goodT L = true then toldT (overT 8 v L) else ([],false)) = X5 at *
     generalize wholeT [(⟨1,0,0,0,a,b,0⟩ : S52)] = Y1 at *
     generalize wholeT [(⟨2,0,0,0,a,⟨#[]⟩,0⟩ : S52)] = Y2 at *
     generalize (if ((3 ≤ m ∧ m ≤ 6) ∧ goodT L = true ∧ goodT M = true) then wholeT (joinT m L M) else []) = Y3 at *
     generalize (if goodT L = true then wholeT (overT 7 0 L) else []) = Y4 at *
     generalize (if goodT L = true then wholeT (overT 8 v L) else []) = Y5 at *
     rw [p1,Option.bind_some,if_pos rfl,q1,if_neg (by decide),p2,Option.bind_some,if_pos rfl,q2,if_neg (by decide),p3,Option.bind_some,if_pos rfl,q3,if_neg (by decide),p4,Option.bind_some,if_pos rfl,q4,if_neg (by decide),p5,Option.bind_some,if_pos rfl,q5,
      steelyardlaw14_TreeTells.j1,if_neg (by decide),refgood_eq L (by omega) hSL,Option.bind_some]
     have hj2 : steelyardlaw14_TreeTells.j2 (K + 1) L M L M (deepT L) = some true := by
      rw [steelyardlaw14_TreeTells.j2,good_eq L h6 hSL _ (by omega),Option.bind_some,refgood_eq L (by omega) hSL,Option.bind_some,if_pos (by simp),deep_eq L h6 hSL _ (by omega),Option.bind_some,if_pos rfl]
      unfold tree_Same.f sameF
      rw [if_pos (by omega),Option.bind_some,bare_eq L (by omega) _ (by omega),Option.bind_some,bare_eq M (by omega) _ (by omega),Option.bind_some,keep_eq _ _ (by rw [List.length_map];omega) _ (by rw [List.length_map];omega),Option.bind_some,List.length_map,List.length_map,keep_bare,if_pos (by simp),
       keep_refl L (by omega) _ (by omega),Option.bind_some,if_pos rfl,keep_refl M (by omega) _ (by omega),Option.bind_some,if_pos rfl]
      rfl
     by_cases g : goodT L = true
     ·obtain ⟨l1,l2,l3,l4⟩ := (goodT_iff L).1 g
      have dl : (deepOf L []).length = L.length := by rw [deepOf_len];simp
      have e : deepT L = rd (deepOf L []) ((L.length : Int) - 1) := by unfold deepT;rw [if_pos g]
      rw [if_pos g,deeps_eq L h6 l3 _ (by omega),Option.bind_some,dl,wrapN (by omega) (by omega),if_pos (by omega),if_pos (by omega),← e]
      exact hj2
     ·have e : deepT L = 0 := by unfold deepT;rw [if_neg g]
      rw [e] at hj2
      rw [if_neg g]
      exact hj2
end GTree
end Go.Proofs.YtcajdkncohcaeaaDoor
