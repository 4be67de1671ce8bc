import Derived.Test.YtcajdkncohcaeaaDoorYTrP
namespace Go.Proofs.YtcajdkncohcaeaaDoor
set_option linter.unusedVariables false
set_option linter.unusedSimpArgs false
open Go.RowKit Go.Proofs.YtcajdkncohcaeaaDoorW.PrintWords Go.Proofs.YtcajdkncohcaeaaDoorW.PrintMore
open GTree (S52 k52 rd_T52)
theorem twoK_iff (k : Int) : twoK k = true ↔ 3 ≤ k ∧ k ≤ 6 := by
 unfold twoK;simp only [Bool.or_eq_true,beq_iff_eq];omega
theorem isTwo_eq (k : Int) : isTwo k = twoK k := by
 unfold isTwo twoK;simp only [Bool.or_assoc]
theorem isOver_iff (k : Int) : isOver k = true ↔ k = 7 ∨ k = 8 := by
 unfold isOver;simp only [Bool.or_eq_true,beq_iff_eq]
inductive Step (out : List Int) (x : S52) : Int → Prop
 | leaf (h : x.f0 = 1 ∨ x.f0 = 2) : Step out x (out.length : Int)
 | over (h : x.f0 = 7 ∨ x.f0 = 8) (h0 : 0 < out.length) (h1 : x.f1 = (out.length : Int) - 1) : Step out x (rd out x.f1)
 | two (h : 3 ≤ x.f0 ∧ x.f0 ≤ 6) (h1 : 1 < out.length) (h2 : x.f2 = (out.length : Int) - 1) (h3 : 0 < rd out x.f2) (h4 : x.f1 = rd out x.f2 - 1) : Step out x (rd out x.f1)
theorem step_of {out : List Int} {x : S52} {b : Int} (h : refStep out x = some b) : Step out x b := by
 unfold refStep at h
 split at h
 ·next h1 =>
  obtain rfl := Option.some.inj h
  unfold litB at h1
  simp only [Bool.and_eq_true,beq_iff_eq] at h1
  exact .leaf (.inl h1.1)
 ·split at h
  ·next h1 =>
   obtain rfl := Option.some.inj h
   unfold refB at h1
   simp only [Bool.and_eq_true,beq_iff_eq] at h1
   exact .leaf (.inr h1.1)
  ·split at h
   ·next h1 =>
    obtain rfl := Option.some.inj h
    unfold overB at h1
    simp only [Bool.and_eq_true,Bool.or_eq_true,beq_iff_eq,decide_eq_true_eq] at h1
    obtain ⟨p,q,r,_⟩ := h1
    rw [← r]
    exact .over (by omega) (by omega) r
   ·split at h
    ·next h1 =>
     obtain rfl := Option.some.inj h
     unfold twoB at h1
     simp only [Bool.and_eq_true,beq_iff_eq,decide_eq_true_eq] at h1
     obtain ⟨p,q,r,s,t,_⟩ := h1
     rw [← r] at s t
     exact .two ((twoK_iff _).1 p) (by omega) r s t
    ·cases h
theorem fromOk_rd {out : List Int} (hf : fromOk out) {i : Int} (h0 : 0 ≤ i) (h1 : i < (out.length : Int)) : 0 ≤ rd out i ∧ rd out i ≤ i := by
 have := hf i.toNat (by omega)
 rwa [show ((i.toNat : Nat) : Int) = i by omega] at this
theorem step_range {out : List Int} {x : S52} {b : Int} (hf : fromOk out) (h : Step out x b) : 0 ≤ b ∧ b ≤ (out.length : Int) := by
 cases h with
 | leaf h => omega
 | over h h0 h1 => have := fromOk_rd hf (i := x.f1) (by omega) (by omega);omega
 | two h h1 h2 h3 h4 =>
  have a := fromOk_rd hf (i := x.f2) (by omega) (by omega)
  have := fromOk_rd hf (i := x.f1) (by omega) (by omega);omega
theorem step_kids {out : List Int} {x : S52} {b : Int} (hf : fromOk out) (h : Step out x b) : (x.f0 = 1 ∨ x.f0 = 2) ∨ ((x.f0 = 7 ∨ x.f0 = 8) ∧ 0 ≤ x.f1 ∧ x.f1 < (out.length : Int)) ∨ ((3 ≤ x.f0 ∧ x.f0 ≤ 6) ∧ 0 ≤ x.f1 ∧ x.f1 < (out.length : Int) ∧ 0 ≤ x.f2 ∧ x.f2 < (out.length : Int)) := by
 cases h with
 | leaf h => exact .inl h
 | over h h0 h1 => exact .inr (.inl ⟨h,by omega,by omega⟩)
 | two h h1 h2 h3 h4 =>
  have a := fromOk_rd hf (i := x.f2) (by omega) (by omega)
  exact .inr (.inr ⟨h,by omega,by omega,by omega,by omega⟩)
/-- all of l is taken in -/
def runs (l : List S52) (out : List Int) : Prop := (refBegin l out).length = out.length + l.length
theorem run_cons {x : S52} {l : List S52} {out : List Int} (h : runs (x :: l) out) : ∃ b,refStep out x = some b ∧ runs l (out ++ [b]) ∧ refBegin (x :: l) out = refBegin l (out ++ [b]) := by
 unfold runs at h ⊢
 rw [refBegin_cons] at h ⊢
 cases hr : refStep out x with
 | none => rw [hr] at h;simp at h
 | some b =>
  rw [hr] at h
  exact ⟨b,rfl,by rw [h];simp;omega,rfl⟩
theorem goodT_iff (L : List S52) : goodT L = true ↔ 1 ≤ L.length ∧ L.length ≤ 2000 ∧ runs L [] ∧ rd (refBegin L []) ((L.length : Int) - 1) = 0 := by
 unfold goodT goodBg runs
 simp only [Bool.and_eq_true,decide_eq_true_eq,beq_iff_eq,List.length_nil,Nat.zero_add]
theorem fromOk_nil : fromOk [] := fun i hi => by simp at hi
theorem rd_left (D1 ds : List Int) (i : Int) (h0 : 0 ≤ i) (h1 : i < (D1.length : Int)) : rd (D1 ++ ds) i = rd D1 i := by
 unfold rd
 rw [List.getD_eq_getElem?_getD,List.getElem?_append_left (by omega),List.getD_eq_getElem?_getD]
def dstep (ds : List Int) (x : S52) : Int := if twoK x.f0 = true then 1 + mx (rd ds x.f1) (rd ds x.f2) else if isOver x.f0 = true then 1 + rd ds x.f1 else 1
def deepOf : List S52 → List Int → List Int
 | [],ds => ds
 | x :: l,ds => deepOf l (ds ++ [dstep ds x])
theorem deepOf_len : ∀ (l : List S52) (ds : List Int),(deepOf l ds).length = ds.length + l.length
 | [],_ => rfl
 | x :: l,ds => by
  rw [show deepOf (x :: l) ds = deepOf l (ds ++ [dstep ds x]) from rfl,deepOf_len];simp;omega
def dsOk (ds : List Int) : Prop := ∀ i : Nat,i < ds.length → 1 ≤ rd ds (i : Int) ∧ rd ds (i : Int) ≤ (i : Int) + 1
theorem dsOk_nil : dsOk [] := fun i hi => by simp at hi
theorem dsOk_rd {ds : List Int} (hf : dsOk ds) {i : Int} (h0 : 0 ≤ i) (h1 : i < (ds.length : Int)) : 1 ≤ rd ds i ∧ rd ds i ≤ i + 1 := by
 have := hf i.toNat (by omega)
 rwa [show ((i.toNat : Nat) : Int) = i by omega] at this
theorem dsOk_snoc {ds : List Int} {b : Int} (h : dsOk ds) (h0 : 1 ≤ b) (h1 : b ≤ (ds.length : Int) + 1) : dsOk (ds ++ [b]) := by
 intro i hi
 rw [List.length_append,List.length_singleton] at hi
 by_cases e : i = ds.length
 ·subst e;rw [rd_last];exact ⟨h0,h1⟩
 ·rw [rd_snoc ds b i (by omega)];exact h i (by omega)
theorem dstep_ok {out ds : List Int} {x : S52} {b : Int} (hf : fromOk out) (hd : dsOk ds) (hl : ds.length = out.length) (h : Step out x b) : 1 ≤ dstep ds x ∧ dstep ds x ≤ (ds.length : Int) + 1 := by
 rcases step_kids hf h with hk | ⟨hk,k1,k2⟩ | ⟨hk,k1,k2,k3,k4⟩
 ·have e2 : twoK x.f0 = false := Bool.eq_false_iff.2 (fun h => by have := (twoK_iff _).1 h;omega)
  have e3 : isOver x.f0 = false := Bool.eq_false_iff.2 (fun h => by have := (isOver_iff _).1 h;omega)
  unfold dstep;rw [if_neg (by rw [e2];decide),if_neg (by rw [e3];decide)];omega
 ·have e2 : twoK x.f0 = false := Bool.eq_false_iff.2 (fun h => by have := (twoK_iff _).1 h;omega)
  have := dsOk_rd hd k1 (by omega)
  unfold dstep;rw [if_neg (by rw [e2];decide),if_pos ((isOver_iff _).2 hk)];omega
 ·have a1 := dsOk_rd hd k1 (by omega)
  have a2 := dsOk_rd hd k3 (by omega)
  unfold dstep;rw [if_pos ((twoK_iff _).2 hk)];unfold mx;split <;> omega
end Go.Proofs.YtcajdkncohcaeaaDoor
