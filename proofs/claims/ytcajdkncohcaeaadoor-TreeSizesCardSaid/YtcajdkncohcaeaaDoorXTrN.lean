import Derived.Test.YtcajdkncohcaeaaDoorXTrKa
import Derived.Test.YtcajdkncohcaeaaDoorXTrH
import Derived.Test.YtcajdkncohcaeaaDoorXGTree2
namespace Go.Proofs.YtcajdkncohcaeaaDoor
set_option linter.unusedVariables false
set_option linter.unusedSimpArgs false
open Go.RowKit Go.Proofs.YtcajdkncohcaeaaDoorW.PrintWords Go.Proofs.YtcajdkncohcaeaaDoorW.PrintMore
open GTree (S52 k52 rd_T52)
def stepEq (x : S52) (out : List Int) : Prop := match refStep out x with
  | some b => beginF x.f0 x.f1 x.f2 x.f3 x.f4 x.f5 out = some (b, true) ∧ 0 ≤ b ∧ b ≤ (out.length : Int)
  | none => ∃ c, beginF x.f0 x.f1 x.f2 x.f3 x.f4 x.f5 out = some (c, false)
theorem stepEq_of (x : S52) (out : List Int) (c : Int) (v : Bool) (h : refStep out x = if v = true then some c else none) (hb : beginF x.f0 x.f1 x.f2 x.f3 x.f4 x.f5 out = some (c, v)) (h0 : 0 ≤ c) (h1 : c ≤ (out.length : Int)) : stepEq x out := by
  unfold stepEq
  cases v with
  | true => rw [h, if_pos rfl]; exact ⟨hb, h0, h1⟩
  | false => rw [h, if_neg (by decide)]; exact ⟨c, hb⟩
theorem step_eq (x : S52) (out : List Int) (hf : fromOk out) (hs : (out.length : Int) < 4611686018427387904) (ht : x.f4.size ≤ 140737488351232) : stepEq x out := by
  by_cases k1 : x.f0 = 1
  · refine stepEq_of x out (out.length : Int) ((x.f3 == 0) && ((x.f1 == 0) && ((x.f2 == 0) && (goodL x.f4 && unitB x.f5)))) ?_ ?_ (by omega) (by omega)
    · have e1 : litB x = ((x.f3 == 0) && ((x.f1 == 0) && ((x.f2 == 0) && (goodL x.f4 && unitB x.f5)))) := by
        unfold litB leafB; rw [k1]
        cases (x.f3 == 0) <;> cases (x.f1 == 0) <;> cases (x.f2 == 0) <;> simp
      have e2 : refB x = false := by unfold refB; rw [k1]; rfl
      have e3 : overB (out.length : Int) x = false := by unfold overB; rw [k1]; rfl
      have e4 : ∀ e, twoB (out.length : Int) e x = false := fun e => by unfold twoB; rw [k1]; rfl
      unfold refStep
      rw [e1, e2, e3, e4]
      rfl
    · unfold beginF; rw [if_pos ⟨ht, hs⟩, if_pos k1]
  by_cases k2 : x.f0 = 2
  · refine stepEq_of x out (out.length : Int) ((x.f3 == 0 && x.f5.toList == []) && ((x.f1 == 0) && ((x.f2 == 0) && isName x.f4))) ?_ ?_ (by omega) (by omega)
    · have e1 : litB x = false := by unfold litB; rw [k2]; rfl
      have e2 : refB x = ((x.f3 == 0 && x.f5.toList == []) && ((x.f1 == 0) && ((x.f2 == 0) && isName x.f4))) := by
        unfold refB leafB; rw [k2]
        cases (x.f3 == 0) <;> cases (x.f1 == 0) <;> cases (x.f2 == 0) <;> cases (x.f5.toList == []) <;> cases isName x.f4 <;> rfl
      have e3 : overB (out.length : Int) x = false := by unfold overB; rw [k2]; rfl
      have e4 : ∀ e, twoB (out.length : Int) e x = false := fun e => by unfold twoB; rw [k2]; rfl
      unfold refStep
      rw [e1, e2, e3, e4]
      rfl
    · unfold beginF; rw [if_pos ⟨ht, hs⟩, if_neg k1, if_pos k2]
  have l1 : litB x = false := by unfold litB; rw [beq_eq_false_iff_ne.2 k1]; rfl
  have l2 : refB x = false := by unfold refB; rw [beq_eq_false_iff_ne.2 k2]; rfl
  by_cases k7 : x.f0 = 7 ∨ x.f0 = 8
  · have e4 : ∀ e, twoB (out.length : Int) e x = false := fun e => by
      unfold twoB; rcases k7 with k | k <;> rw [k] <;> rfl
    by_cases hno : (out.length : Int) < 1 ∨ x.f1 ≠ (out.length : Int) - 1 ∨ x.f2 ≠ 0
    · refine stepEq_of x out 0 false ?_ ?_ (by omega) (by omega)
      · have e3 : overB (out.length : Int) x = false := by
          unfold overB
          rcases hno with h | h | h
          · rw [decide_eq_false (by omega : ¬ (0 : Int) < (out.length : Int))]; simp
          · rw [beq_eq_false_iff_ne.2 h]; simp
          · rw [beq_eq_false_iff_ne.2 h]; simp
        unfold refStep
        rw [l1, l2, e3, e4]
        rfl
      · unfold beginF; rw [if_pos ⟨ht, hs⟩, if_neg k1, if_neg k2, if_pos k7, if_pos hno]
    · have h1 : 1 ≤ (out.length : Int) := by omega
      have hl : x.f1 = (out.length : Int) - 1 := by omega
      have hr : x.f2 = 0 := by omega
      have hfx := hf (out.length - 1) (by omega)
      rw [show ((out.length - 1 : Nat) : Int) = (out.length : Int) - 1 by omega] at hfx
      refine stepEq_of x out (rd out ((out.length : Int) - 1)) ((x.f4.toList == [] && x.f5.toList == []) && ((x.f0 == 8 || x.f3 == 0) && (decide (-64 ≤ mn x.f3 0) && decide (x.f3 ≤ 64)))) ?_ ?_ hfx.1 (by omega)
      · have e3 : overB (out.length : Int) x = ((x.f4.toList == [] && x.f5.toList == []) && ((x.f0 == 8 || x.f3 == 0) && (decide (-64 ≤ mn x.f3 0) && decide (x.f3 ≤ 64)))) := by
          unfold overB
          rw [decide_eq_true (by omega : (0 : Int) < (out.length : Int)), beq_iff_eq.2 hl, beq_iff_eq.2 hr]
          have hmn : decide (-64 ≤ mn x.f3 0) = decide (-64 ≤ x.f3) := by
            unfold mn; by_cases h : -64 ≤ x.f3
            · rw [decide_eq_true h]; split <;> simp <;> omega
            · rw [decide_eq_false h]; split <;> simp <;> omega
          rw [hmn]
          rcases k7 with k | k
          · rw [k]
            by_cases z : x.f3 = 0
            · rw [z]; simp
            · rw [beq_eq_false_iff_ne.2 z]; simp
          · rw [k]
            cases (x.f4.toList == []) <;> cases (x.f5.toList == []) <;> simp
        unfold refStep
        rw [l1, l2, e3, e4]
        rfl
      · unfold beginF; rw [if_pos ⟨ht, hs⟩, if_neg k1, if_neg k2, if_pos k7, if_neg hno, hl]
  have l3 : overB (out.length : Int) x = false := by
    unfold overB; rw [beq_eq_false_iff_ne.2 (fun h => k7 (.inl h)), beq_eq_false_iff_ne.2 (fun h => k7 (.inr h))]; rfl
  by_cases k3 : 3 ≤ x.f0 ∧ x.f0 ≤ 6
  · have tw : twoK x.f0 = true := by
      unfold twoK
      rcases (by omega : x.f0 = 3 ∨ x.f0 = 4 ∨ x.f0 = 5 ∨ x.f0 = 6) with h | h | h | h <;> rw [h] <;> rfl
    by_cases hno : (out.length : Int) < 2 ∨ x.f2 ≠ (out.length : Int) - 1
    · refine stepEq_of x out 0 false ?_ ?_ (by omega) (by omega)
      · have e4 : twoB (out.length : Int) (rd out ((out.length : Int) - 1)) x = false := by
          unfold twoB
          rcases hno with h | h
          · rw [decide_eq_false (by omega : ¬ (1 : Int) < (out.length : Int))]; simp
          · rw [beq_eq_false_iff_ne.2 h]; simp
        unfold refStep
        rw [l1, l2, l3, e4]
        rfl
      · unfold beginF; rw [if_pos ⟨ht, hs⟩, if_neg k1, if_neg k2, if_neg k7, if_pos k3, if_pos hno]
    · have h2 : 2 ≤ (out.length : Int) := by omega
      have hr : x.f2 = (out.length : Int) - 1 := by omega
      have hfx := hf (out.length - 1) (by omega)
      rw [show ((out.length - 1 : Nat) : Int) = (out.length : Int) - 1 by omega] at hfx
      obtain ⟨e, he⟩ : ∃ e, rd out ((out.length : Int) - 1) = e := ⟨_, rfl⟩
      rw [he] at hfx
      by_cases hno2 : x.f1 ≠ e - 1 ∨ x.f1 < 0
      · refine stepEq_of x out 0 false ?_ ?_ (by omega) (by omega)
        · have e4 : twoB (out.length : Int) e x = false := by
            unfold twoB
            by_cases h : x.f1 = e - 1
            · rw [decide_eq_false (by omega : ¬ 0 < e)]; simp
            · rw [beq_eq_false_iff_ne.2 h]; simp
          unfold refStep
          rw [l1, l2, l3, he, e4]
          rfl
        · unfold beginF; rw [if_pos ⟨ht, hs⟩, if_neg k1, if_neg k2, if_neg k7, if_pos k3, if_neg hno, hr, he, if_pos (by omega), if_pos hno2]
      · have hl : x.f1 = e - 1 := by omega
        have hfl := hf x.f1.toNat (by omega)
        rw [show ((x.f1.toNat : Nat) : Int) = x.f1 by omega] at hfl
        refine stepEq_of x out (rd out x.f1) ((x.f3 == 0) && (x.f4.toList == [] && x.f5.toList == [])) ?_ ?_ hfl.1 (by omega)
        · have e4 : twoB (out.length : Int) e x = ((x.f3 == 0) && (x.f4.toList == [] && x.f5.toList == [])) := by
            unfold twoB
            rw [tw, decide_eq_true (by omega : (1 : Int) < (out.length : Int)), beq_iff_eq.2 hr, decide_eq_true (by omega : 0 < e), beq_iff_eq.2 hl]
            simp
          unfold refStep
          rw [l1, l2, l3, he, e4]
          rfl
        · unfold beginF; rw [if_pos ⟨ht, hs⟩, if_neg k1, if_neg k2, if_neg k7, if_pos k3, if_neg hno, hr, he, if_pos (by omega), if_neg hno2, if_pos (by omega)]
  · refine stepEq_of x out 0 false ?_ ?_ (by omega) (by omega)
    · have e4 : ∀ e, twoB (out.length : Int) e x = false := fun e => by
        unfold twoB twoK
        rw [beq_eq_false_iff_ne.2 (by omega : x.f0 ≠ 3), beq_eq_false_iff_ne.2 (by omega : x.f0 ≠ 4), beq_eq_false_iff_ne.2 (by omega : x.f0 ≠ 5), beq_eq_false_iff_ne.2 (by omega : x.f0 ≠ 6)]; rfl
      unfold refStep
      rw [l1, l2, l3, e4]
      rfl
    · unfold beginF; rw [if_pos ⟨ht, hs⟩, if_neg k1, if_neg k2, if_neg k7, if_neg k3]
end Go.Proofs.YtcajdkncohcaeaaDoor
