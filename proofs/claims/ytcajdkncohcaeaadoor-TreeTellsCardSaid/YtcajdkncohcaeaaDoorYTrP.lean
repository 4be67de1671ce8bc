import Derived.Test.YtcajdkncohcaeaaDoorYTrN
namespace Go.Proofs.YtcajdkncohcaeaaDoor
set_option linter.unusedVariables false
set_option linter.unusedSimpArgs false
open Go.RowKit Go.Proofs.YtcajdkncohcaeaaDoorW.PrintWords Go.Proofs.YtcajdkncohcaeaaDoorW.PrintMore
open GTree (S52 k52 rd_T52 tree_Good.l0 tree_Good.f tree_Good.j0 tree_begin.f steelyardkeep_LargeTree.l0 steelyardkeep_LargeTree.f)
theorem wrap_succ {i : Int} (h0 : -9223372036854775808 ≤ i) (h : i < 9223372036854775807) : wrap64 (i + 1) = i + 1 := by unfold wrap64;omega
theorem wrap_pred {i : Int} (h0 : -9223372036854775808 < i) (h : i ≤ 9223372036854775807) : wrap64 (i - 1) = i - 1 := by unfold wrap64;omega
def okS (l : List S52) : Prop := ∀ x ∈ l,x.f4.size ≤ 6000 ∧ x.f5.size ≤ 6000
def goodBg (B : List Int) (n : Nat) : Bool := decide (B.length = n) && (rd B ((n : Int) - 1) == 0)
theorem good_loop (L : List S52) (hL : 1 ≤ L.length) (hL2 : L.length ≤ 6000) (hS : okS L) : ∀ (d k i : Nat) (out : List Int),L.length - i ≤ d → d < k → i ≤ L.length → out.length = i → fromOk out →
 tree_Good.l0 k L out L (L.length : Int) (i : Int) = some (goodBg (refBegin (L.drop i) out) L.length) := by
 intro d
 induction d with
 | zero =>
  intro k i out hd hk hi ho hf
  obtain ⟨k,rfl⟩ : ∃ m,k = m + 1 := ⟨k - 1,by omega⟩
  obtain rfl : i = L.length := by omega
  rw [tree_Good.l0,if_neg (by omega),wrap_pred (by omega) (by omega),if_pos (by omega),if_pos (by omega),List.drop_eq_nil_of_le (Nat.le_refl _)]
  rw [show refBegin [] out = out from rfl]
  unfold goodBg
  rw [decide_eq_true ho,Bool.true_and]
 | succ d ih =>
  intro k i out hd hk hi ho hf
  obtain ⟨k,rfl⟩ : ∃ m,k = m + 1 := ⟨k - 1,by omega⟩
  by_cases he : i = L.length
  ·subst he
   rw [tree_Good.l0,if_neg (by omega),wrap_pred (by omega) (by omega),if_pos (by omega),if_pos (by omega),List.drop_eq_nil_of_le (Nat.le_refl _)]
   rw [show refBegin [] out = out from rfl]
   unfold goodBg
   rw [decide_eq_true ho,Bool.true_and]
  ·have hlt : i < L.length := by omega
   have hx := hS _ (rd_mem L i hlt)
   have hst := step_eq (rd_T52 L (i : Int)) out hf (by omega) (by omega)
   rw [tree_Good.l0,if_pos (by omega),if_pos (by omega),if_pos (by omega),drop_rd L i hlt,refBegin_cons]
   generalize rd_T52 L (i : Int) = x at *
   unfold stepEq at hst
   unfold tree_begin.f
   cases hr : refStep out x with
   | some b =>
    rw [hr] at hst
    obtain ⟨h1,h2,h3⟩ := hst
    rw [h1,Option.bind_some,if_pos rfl,if_pos (by omega),wrap_succ (by omega) (by omega)]
    have := ih k (i + 1) (out ++ [b]) (by omega) (by omega) (by omega) (by simp;omega) (fromOk_snoc hf h2 h3)
    exact this
   | none =>
    rw [hr] at hst
    obtain ⟨c,h1⟩ := hst
    rw [h1,Option.bind_some,if_neg (by simp)]
    show some false = some (goodBg [] L.length)
    unfold goodBg
    rw [decide_eq_false (by simp;omega)]
    rfl
def goodT (L : List S52) : Bool := decide (1 ≤ L.length) && (decide (L.length ≤ 2000) && goodBg (refBegin L []) L.length)
theorem good_eq (L : List S52) (hL2 : L.length ≤ 6000) (hS : okS L) (k : Nat) (hk : L.length + 1 < k) : tree_Good.f k L = some (goodT L) := by
 obtain ⟨k,rfl⟩ : ∃ m,k = m + 1 := ⟨k - 1,by omega⟩
 unfold tree_Good.f goodT
 by_cases h1 : 1 ≤ L.length
 ·rw [if_neg (by omega),tree_Good.j0,decide_eq_true h1,Bool.true_and]
  by_cases h2 : L.length ≤ 2000
  ·rw [decide_eq_false (by omega : ¬ (L.length : Int) > 2000),if_neg (by decide),decide_eq_true h2,Bool.true_and]
   have := good_loop L h1 hL2 hS L.length k 0 [] (by omega) (by omega) (by omega) rfl (fun i hi => by simp at hi)
   rw [List.drop_zero] at this
   exact this
  ·rw [decide_eq_true (by omega : (L.length : Int) > 2000),if_pos rfl,decide_eq_false h2];rfl
 ·rw [if_pos (by omega),tree_Good.j0,if_pos rfl,decide_eq_false h1];rfl
theorem large_loop (L : List S52) (hL : L.length ≤ 9223372036854775807) : ∀ (d k i : Nat) (n : Int),L.length - i ≤ d → d < k → i ≤ L.length → 0 ≤ n → n ≤ 20000 →
 ∃ b,steelyardkeep_LargeTree.l0 k L n (i : Int) = some b ∧ (b = false → n + ((L.length : Int) - i) ≤ 6000 ∧ ∀ j,i ≤ j → j < L.length → (rd_T52 L (j : Int)).f4.size ≤ 6000 ∧ (rd_T52 L (j : Int)).f5.size ≤ 6000) := by
 intro d
 induction d with
 | zero =>
  intro k i n hd hk hi h0 h1
  obtain ⟨k,rfl⟩ : ∃ m,k = m + 1 := ⟨k - 1,by omega⟩
  obtain rfl : i = L.length := by omega
  rw [steelyardkeep_LargeTree.l0,if_neg (by omega)]
  exact ⟨_,rfl,fun h => ⟨by have := of_decide_eq_false h;omega,fun j hj1 hj2 => by omega⟩⟩
 | succ d ih =>
  intro k i n hd hk hi h0 h1
  obtain ⟨k,rfl⟩ : ∃ m,k = m + 1 := ⟨k - 1,by omega⟩
  by_cases he : i = L.length
  ·subst he
   rw [steelyardkeep_LargeTree.l0,if_neg (by omega)]
   exact ⟨_,rfl,fun h => ⟨by have := of_decide_eq_false h;omega,fun j hj1 hj2 => by omega⟩⟩
  ·rw [steelyardkeep_LargeTree.l0,if_pos (by omega)]
   by_cases hn : n ≤ 6000
   ·rw [if_pos hn,if_pos (by omega),wrap_succ (by omega) (by omega)]
    obtain ⟨a,ha⟩ : ∃ a,((rd_T52 L (i : Int)).f4.size : Int) = a := ⟨_,rfl⟩
    obtain ⟨c,hc⟩ : ∃ c,((rd_T52 L (i : Int)).f5.size : Int) = c := ⟨_,rfl⟩
    rw [ha,hc]
    have m1 : 0 ≤ mn a 6000 ∧ mn a 6000 ≤ 6000 ∧ (mn a 6000 < 6000 → mn a 6000 = a) := by unfold mn;split <;> omega
    have m2 : 0 ≤ mn c 6000 ∧ mn c 6000 ≤ 6000 ∧ (mn c 6000 < 6000 → mn c 6000 = c) := by unfold mn;split <;> omega
    rw [show wrap64 (n + ((1 + mn a 6000) + mn c 6000)) = n + ((1 + mn a 6000) + mn c 6000) by unfold wrap64;omega]
    obtain ⟨b,hb1,hb2⟩ := ih k (i + 1) (n + ((1 + mn a 6000) + mn c 6000)) (by omega) (by omega) (by omega) (by omega) (by omega)
    refine ⟨b,hb1,fun h => ?_⟩
    obtain ⟨q1,q2⟩ := hb2 h
    refine ⟨by omega,fun j hj1 hj2 => ?_⟩
    by_cases hji : j = i
    ·subst hji;omega
    ·exact q2 j (by omega) hj2
   ·rw [if_neg hn]
    exact ⟨_,rfl,fun h => by have := of_decide_eq_false h;omega⟩
theorem large_eq (L : List S52) (hL : L.length ≤ 9223372036854775807) (k : Nat) (hk : L.length < k) : ∃ b,steelyardkeep_LargeTree.f k L = some b ∧ (b = false → L.length ≤ 6000 ∧ okS L) := by
 obtain ⟨b,h1,h2⟩ := large_loop L hL L.length k 0 0 (by omega) (by omega) (by omega) (by omega) (by omega)
 refine ⟨b,h1,fun h => ?_⟩
 obtain ⟨q1,q2⟩ := h2 h
 refine ⟨by omega,fun x hx => ?_⟩
 obtain ⟨j,hj,rfl⟩ := List.getElem_of_mem hx
 have := q2 j (Nat.zero_le _) hj
 unfold rd_T52 at this
 rwa [Int.toNat_natCast,List.getD_eq_getElem?_getD,List.getElem?_eq_getElem hj] at this
end Go.Proofs.YtcajdkncohcaeaaDoor
