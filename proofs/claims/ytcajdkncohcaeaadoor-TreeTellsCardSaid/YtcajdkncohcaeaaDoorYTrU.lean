import Derived.Test.YtcajdkncohcaeaaDoorYTrS
import Derived.Test.YtcajdkncohcaeaaDoorYGTree3
import Derived.Test.YtcajdkncohcaeaaDoorYGTree5
namespace Go.Proofs.YtcajdkncohcaeaaDoor
set_option linter.unusedVariables false
set_option linter.unusedSimpArgs false
open Go.RowKit Go.Proofs.YtcajdkncohcaeaaDoorW.PrintWords Go.Proofs.YtcajdkncohcaeaaDoorW.PrintMore
open GTree (S52 k52 rd_T52)
namespace GTree
def nodeT (a n m : Int) : S52 := ⟨a,n,m,0,⟨#[]⟩,⟨#[]⟩,0⟩
def sideT (L M : List S52) : List S52 := L ++ M.map (shS (L.length : Int))
def joinT (a : Int) (L M : List S52) : List S52 := sideT L M ++ [nodeT a ((L.length : Int) - 1) ((L.length : Int) + (M.length : Int) - 1)]
def overT (a v : Int) (L : List S52) : List S52 := L ++ [⟨a,(L.length : Int) - 1,0,v,⟨#[]⟩,⟨#[]⟩,0⟩]
theorem sideT_len (L M : List S52) : (sideT L M).length = L.length + M.length := by unfold sideT;simp
theorem joinT_len (a : Int) (L M : List S52) : (joinT a L M).length = L.length + M.length + 1 := by unfold joinT;rw [List.length_append,sideT_len];rfl
theorem overT_len (a v : Int) (L : List S52) : (overT a v L).length = L.length + 1 := by unfold overT;simp
theorem shS_bytes (n : Int) (x : S52) : (shS n x).f4 = x.f4 ∧ (shS n x).f5 = x.f5 := by unfold shS;split;exact ⟨rfl,rfl⟩;split <;> exact ⟨rfl,rfl⟩
theorem okS_side {L M : List S52} (h : okS L) (h' : okS M) : okS (sideT L M) := by
 intro x hx
 rcases List.mem_append.1 hx with hx | hx
 ·exact h x hx
 ·obtain ⟨y,hy,rfl⟩ := List.mem_map.1 hx
  rw [(shS_bytes _ y).1,(shS_bytes _ y).2]
  exact h' y hy
theorem okS_join {a : Int} {L M : List S52} (h : okS L) (h' : okS M) : okS (joinT a L M) := by
 intro x hx
 rcases List.mem_append.1 hx with hx | hx
 ·exact okS_side h h' x hx
 ·rw [List.mem_singleton.1 hx];exact ⟨Nat.zero_le _,Nat.zero_le _⟩
theorem okS_over {a v : Int} {L : List S52} (h : okS L) : okS (overT a v L) := by
 intro x hx
 rcases List.mem_append.1 hx with hx | hx
 ·exact h x hx
 ·rw [List.mem_singleton.1 hx];exact ⟨Nat.zero_le _,Nat.zero_le _⟩
def toldT (L : List S52) : List S52 × Bool := if goodT L = true then (L,true) else ([],false)
theorem told_eq (L : List S52) (hL : L.length ≤ 6000) (hS : okS L) (k : Nat) (hk : L.length + 1 < k) : tree_told.f k L = some (toldT L) := by
 unfold tree_told.f toldT
 rw [good_eq L hL hS k hk,Option.bind_some]
 split <;> rfl
theorem behind_eq (L M : List S52) (h : L.length + M.length < 1000000) : tree_behind.f L M = some (sideT L M) := by
 unfold tree_behind.f behindF sideT
 rw [if_pos h]
theorem join_eq (a : Int) (L M : List S52) (hL : L.length ≤ 6000) (hM : M.length ≤ 6000) (hSL : okS L) (hSM : okS M) (k : Nat) (hk : 6003 < k) :
 tree_Join.f k a L M = some (if ((3 ≤ a ∧ a ≤ 6) ∧ goodT L = true ∧ goodT M = true) then toldT (joinT a L M) else ([],false)) := by
 obtain ⟨k,rfl⟩ : ∃ m,k = m + 1 := ⟨k - 1,by omega⟩
 unfold tree_Join.f
 have hj : ∀ c,c = true → tree_Join.j0 (k + 1) a L M c = some ([],false) := by rintro c rfl;rw [tree_Join.j0,if_pos rfl]
 by_cases h3 : a < 3
 ·rw [if_pos h3,if_neg (by omega)];exact hj _ rfl
 ·rw [if_neg h3]
  by_cases h6 : a > 6
  ·rw [if_pos h6,if_neg (by omega)];exact hj _ rfl
  ·rw [if_neg h6,good_eq L hL hSL _ (by omega),Option.bind_some]
   by_cases gL : goodT L = true
   ·rw [if_pos gL,good_eq M hM hSM _ (by omega),Option.bind_some]
    by_cases gM : goodT M = true
    ·obtain ⟨l1,l2,l3,l4⟩ := (goodT_iff L).1 gL
     obtain ⟨m1,m2,m3,m4⟩ := (goodT_iff M).1 gM
     have hj : joinT a L M = sideT L M ++ [(⟨a,wrap64 ((L.length : Int) - 1),wrap64 (((sideT L M).length : Int) - 1),0,(⟨#[]⟩ : ByteArray),(⟨#[]⟩ : ByteArray),0⟩ : S52)] := by
      unfold joinT nodeT
      rw [sideT_len,wrapN (by omega) (by omega),wrapN (by omega) (by omega),show ((L.length + M.length : Nat) : Int) = (L.length : Int) + (M.length : Int) by omega]
     rw [if_pos ⟨⟨by omega,by omega⟩,gL,gM⟩,gM,tree_Join.j0,if_neg (by decide),behind_eq L M (by omega),Option.bind_some,if_pos (by rw [sideT_len];omega),← hj,told_eq _ (by rw [joinT_len];omega) (okS_join hSL hSM) k (by rw [joinT_len];omega)]
     rfl
    ·rw [if_neg (fun h => gM h.2.2),Bool.eq_false_iff.2 gM];exact hj _ rfl
   ·rw [if_neg gL,if_neg (fun h => gL h.2.1)];exact hj _ rfl
theorem side_nil (L : List S52) : sideT L [] = L := by unfold sideT;simp
theorem over_eq (a v : Int) (L : List S52) (hL : L.length ≤ 6000) (hSL : okS L) (k : Nat) (hk : 6003 < k) :
 tree_over.f k L a 0 0 v (⟨#[]⟩ : ByteArray) (⟨#[]⟩ : ByteArray) 0 = some (if goodT L = true then toldT (overT a v L) else ([],false)) := by
 unfold tree_over.f
 rw [good_eq L hL hSL _ (by omega),Option.bind_some]
 by_cases gL : goodT L = true
 ·obtain ⟨l1,l2,l3,l4⟩ := (goodT_iff L).1 gL
  rw [if_pos gL,if_pos gL,behind_eq L [] (by simp;omega),Option.bind_some,side_nil,wrapN (by omega) (by omega),Option.bind_some,if_pos (by simp;omega)]
  have := told_eq (overT a v L) (by rw [overT_len];omega) (okS_over hSL) k (by rw [overT_len];omega)
  unfold overT at this
  rw [this]
  rfl
 ·rw [if_neg gL,if_neg gL]
theorem neg_eq (L : List S52) (hL : L.length ≤ 6000) (hSL : okS L) (k : Nat) (hk : 6003 < k) : tree_Neg.f k L = some (if goodT L = true then toldT (overT 7 0 L) else ([],false)) := by
 unfold tree_Neg.f;rw [over_eq 7 0 L hL hSL k hk];rfl
theorem pow_eq (v : Int) (L : List S52) (hL : L.length ≤ 6000) (hSL : okS L) (k : Nat) (hk : 6003 < k) : tree_Pow.f k L v = some (if goodT L = true then toldT (overT 8 v L) else ([],false)) := by
 unfold tree_Pow.f;rw [over_eq 8 v L hL hSL k hk];rfl
def keepL : List S52 → List S52 → Bool
 | x :: l,y :: m => (bareEq x y && x.f6 == y.f6) && keepL l m
 | _,_ => true
theorem keepL_refl : ∀ L,keepL L L = true
 | [] => rfl
 | x :: l => by unfold keepL bareEq;rw [keepL_refl l];simp
theorem keep_loop (L M : List S52) (hL : L.length ≤ 100000) (hlen : L.length = M.length) : ∀ (d k i : Nat),L.length - i ≤ d → d < k → i ≤ L.length → steelyardkeep_Tree.l0 k L M (i : Int) = some (keepL (L.drop i) (M.drop i)) := by
 intro d
 induction d with
 | zero =>
  intro k i hd hk hi
  obtain ⟨k,rfl⟩ : ∃ m,k = m + 1 := ⟨k - 1,by omega⟩
  rw [steelyardkeep_Tree.l0,if_neg (by omega),List.drop_eq_nil_of_le (by omega)];rfl
 | succ d ih =>
  intro k i hd hk hi
  obtain ⟨k,rfl⟩ : ∃ m,k = m + 1 := ⟨k - 1,by omega⟩
  by_cases he : i = L.length
  ·rw [steelyardkeep_Tree.l0,if_neg (by omega),List.drop_eq_nil_of_le (by omega)];rfl
  ·have hN := ih k (i + 1) (by omega) (by omega) (by omega)
   rw [drop_rd L i (by omega),drop_rd M i (by omega),steelyardkeep_Tree.l0,if_pos (by omega),if_pos (by omega),if_pos (by omega),wrap_succ (by omega) (by omega)]
   generalize rd_T52 L (i : Int) = x at *
   generalize rd_T52 M (i : Int) = y at *
   rw [show keepL (x :: L.drop (i + 1)) (y :: M.drop (i + 1)) = ((bareEq x y && x.f6 == y.f6) && keepL (L.drop (i + 1)) (M.drop (i + 1))) from rfl]
   have e : (!((x.f0) == (y.f0)) || (!((x.f1) == (y.f1)) || (!((x.f2) == (y.f2)) || (!((x.f3) == (y.f3)) || (!(((x.f4).toList) == ((y.f4).toList)) || (!(((x.f5).toList) == ((y.f5).toList)) || (!((x.f6) == (y.f6))))))))) = !(bareEq x y && x.f6 == y.f6) := by
    unfold bareEq
    simp only [Bool.not_and,Bool.or_assoc]
   rw [e]
   cases hq : (bareEq x y && x.f6 == y.f6) with
   | true => rw [if_neg (by decide),Bool.true_and];exact hN
   | false => rw [if_pos (by decide),Bool.false_and]
theorem keep_eq (L M : List S52) (hL : L.length ≤ 100000) (k : Nat) (hk : L.length < k) : steelyardkeep_Tree.f k L M = some (decide (L.length = M.length) && keepL L M) := by
 unfold steelyardkeep_Tree.f
 by_cases h : L.length = M.length
 ·rw [if_pos (by omega),decide_eq_true h,Bool.true_and]
  exact keep_loop L M hL h L.length k 0 (by omega) hk (by omega)
 ·rw [if_neg (by omega),decide_eq_false h];rfl
theorem keep_refl (L : List S52) (hL : L.length ≤ 100000) (k : Nat) (hk : L.length < k) : steelyardkeep_Tree.f k L L = some true := by
 rw [keep_eq L L hL k hk,decide_eq_true rfl,keepL_refl];rfl
end GTree
end Go.Proofs.YtcajdkncohcaeaaDoor
