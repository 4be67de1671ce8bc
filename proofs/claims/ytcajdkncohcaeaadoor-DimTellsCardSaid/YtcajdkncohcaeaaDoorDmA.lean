import Derived.Test.YtcajdkncohcaeaaDoorLxK
import Derived.Test.YtcajdkncohcaeaaDoorShelf
namespace Go.Proofs.YtcajdkncohcaeaaDoor
set_option linter.unusedVariables false
set_option linter.unusedSimpArgs false
open Go.RowKit Go.Proofs.YtcajdkncohcaeaaDoorW.PrintWords

/-! ### dimensions: seven exponents -/
/-- a dimension as a value -/
def dv (a : Nat → Int) : Value := .agg #[.int .i64 (a 0), .int .i64 (a 1), .int .i64 (a 2), .int .i64 (a 3), .int .i64 (a 4), .int .i64 (a 5), .int .i64 (a 6)]
def okE (n : Int) : Bool := decide (-200 ≤ n) && decide (n ≤ 200)
/-- from the k-th exponent on all are in bounds -/
def goodFrom (a : Nat → Int) (k : Nat) : Bool := (([0, 1, 2, 3, 4, 5, 6] : List Nat).drop k).all fun i => okE (a i)
def goodD (a : Nat → Int) : Bool := goodFrom a 0
theorem okE_true {n : Int} (h : okE n = true) : -200 ≤ n ∧ n ≤ 200 := by unfold okE at h; simpa using h
theorem okE_false {n : Int} (h : okE n = false) : n < -200 ∨ 200 < n := by
  unfold okE at h
  by_cases h1 : n < -200
  · exact .inl h1
  · by_cases h2 : 200 < n
    · exact .inr h2
    · rw [decide_eq_true (by omega), decide_eq_true (by omega)] at h; cases h
theorem below7 {k : Nat} (h : k < 7) : k = 0 ∨ k = 1 ∨ k = 2 ∨ k = 3 ∨ k = 4 ∨ k = 5 ∨ k = 6 := by omega

set_option maxRecDepth 20000 in
set_option maxHeartbeats 2000000 in
theorem dgood_any (a : Nat → Int) (w : World) :
    Calls Tryd.prog 46 #[dv a] w fun e w' => e = .returned (.bool (goodD a)) ∧ Below w.heap.size w w' := by
  have HK := Lib.hid (show goodFrom a 0 = goodD a from rfl)
  unfold dv
  go_enter Tryd.func46, Tryd.ntmps46
  go_wp2_with fail
  have HB := Lib.hid (alloc_keep w (.cells #[.int .i64 (a 0), .int .i64 (a 1), .int .i64 (a 2), .int .i64 (a 3), .int .i64 (a 4), .int .i64 (a 5), .int .i64 (a 6)] 65))
  go_loop [6] (fun i => ∃ k : Nat, i = .int .i64 k ∧ k ≤ 7 ∧ Hid (goodFrom a k = goodD a)) (fun i => 7 - (intOf i).toNat)
  case atStart => exact ⟨0, rfl, Nat.zero_le _, HK⟩
  case round =>
    obtain ⟨k, rfl, hk, HR⟩ := hrel
    by_cases hlt : k < 7
    · rcases below7 hlt with h | h | h | h | h | h | h
      · subst h
        clear hlt hk
        have ix : ∀ w : World, (Instr.index 65 (.agg #[.int .i64 (a 0), .int .i64 (a 1), .int .i64 (a 2), .int .i64 (a 3), .int .i64 (a 4), .int .i64 (a 5), .int .i64 (a 6)]) (.int .i64 0)).run Tryd.prog w = .ok (.int .i64 (a 0)) w := fun _ => by kernel_rfl
        cases hz : okE (a 0) with
        | true =>
          have HS : Hid (goodFrom a 1 = goodD a) := Lib.hid (by rw [← HR.out, show goodFrom a 0 = (okE (a 0) && goodFrom a 1) from rfl, hz, Bool.true_and])
          obtain ⟨h1, h2⟩ := okE_true hz
          have h3 : ¬ a 0 < -200 := by omega
          have h4 : ¬ 200 < a 0 := by omega
          clear hz HR
          go_wp2_with fail
          go_round
          case rel => exact ⟨1, by go_num, by omega, HS⟩
          case measure => simp [intOf]
        | false =>
          have HE : Hid (goodD a = false) := Lib.hid (by rw [← HR.out, show goodFrom a 0 = (okE (a 0) && goodFrom a 1) from rfl, hz, Bool.false_and])
          clear HR
          rcases okE_false hz with h1 | h1
          all_goals
            clear hz
            go_wp2_with fail
            go_ret
            exact ⟨by rw [HE.out]; rfl, HB.out⟩
      · subst h
        clear hlt hk
        have ix : ∀ w : World, (Instr.index 65 (.agg #[.int .i64 (a 0), .int .i64 (a 1), .int .i64 (a 2), .int .i64 (a 3), .int .i64 (a 4), .int .i64 (a 5), .int .i64 (a 6)]) (.int .i64 1)).run Tryd.prog w = .ok (.int .i64 (a 1)) w := fun _ => by kernel_rfl
        cases hz : okE (a 1) with
        | true =>
          have HS : Hid (goodFrom a 2 = goodD a) := Lib.hid (by rw [← HR.out, show goodFrom a 1 = (okE (a 1) && goodFrom a 2) from rfl, hz, Bool.true_and])
          obtain ⟨h1, h2⟩ := okE_true hz
          have h3 : ¬ a 1 < -200 := by omega
          have h4 : ¬ 200 < a 1 := by omega
          clear hz HR
          go_wp2_with fail
          go_round
          case rel => exact ⟨2, by go_num, by omega, HS⟩
          case measure => simp [intOf]
        | false =>
          have HE : Hid (goodD a = false) := Lib.hid (by rw [← HR.out, show goodFrom a 1 = (okE (a 1) && goodFrom a 2) from rfl, hz, Bool.false_and])
          clear HR
          rcases okE_false hz with h1 | h1
          all_goals
            clear hz
            go_wp2_with fail
            go_ret
            exact ⟨by rw [HE.out]; rfl, HB.out⟩
      · subst h
        clear hlt hk
        have ix : ∀ w : World, (Instr.index 65 (.agg #[.int .i64 (a 0), .int .i64 (a 1), .int .i64 (a 2), .int .i64 (a 3), .int .i64 (a 4), .int .i64 (a 5), .int .i64 (a 6)]) (.int .i64 2)).run Tryd.prog w = .ok (.int .i64 (a 2)) w := fun _ => by kernel_rfl
        cases hz : okE (a 2) with
        | true =>
          have HS : Hid (goodFrom a 3 = goodD a) := Lib.hid (by rw [← HR.out, show goodFrom a 2 = (okE (a 2) && goodFrom a 3) from rfl, hz, Bool.true_and])
          obtain ⟨h1, h2⟩ := okE_true hz
          have h3 : ¬ a 2 < -200 := by omega
          have h4 : ¬ 200 < a 2 := by omega
          clear hz HR
          go_wp2_with fail
          go_round
          case rel => exact ⟨3, by go_num, by omega, HS⟩
          case measure => simp [intOf]
        | false =>
          have HE : Hid (goodD a = false) := Lib.hid (by rw [← HR.out, show goodFrom a 2 = (okE (a 2) && goodFrom a 3) from rfl, hz, Bool.false_and])
          clear HR
          rcases okE_false hz with h1 | h1
          all_goals
            clear hz
            go_wp2_with fail
            go_ret
            exact ⟨by rw [HE.out]; rfl, HB.out⟩
      · subst h
        clear hlt hk
        have ix : ∀ w : World, (Instr.index 65 (.agg #[.int .i64 (a 0), .int .i64 (a 1), .int .i64 (a 2), .int .i64 (a 3), .int .i64 (a 4), .int .i64 (a 5), .int .i64 (a 6)]) (.int .i64 3)).run Tryd.prog w = .ok (.int .i64 (a 3)) w := fun _ => by kernel_rfl
        cases hz : okE (a 3) with
        | true =>
          have HS : Hid (goodFrom a 4 = goodD a) := Lib.hid (by rw [← HR.out, show goodFrom a 3 = (okE (a 3) && goodFrom a 4) from rfl, hz, Bool.true_and])
          obtain ⟨h1, h2⟩ := okE_true hz
          have h3 : ¬ a 3 < -200 := by omega
          have h4 : ¬ 200 < a 3 := by omega
          clear hz HR
          go_wp2_with fail
          go_round
          case rel => exact ⟨4, by go_num, by omega, HS⟩
          case measure => simp [intOf]
        | false =>
          have HE : Hid (goodD a = false) := Lib.hid (by rw [← HR.out, show goodFrom a 3 = (okE (a 3) && goodFrom a 4) from rfl, hz, Bool.false_and])
          clear HR
          rcases okE_false hz with h1 | h1
          all_goals
            clear hz
            go_wp2_with fail
            go_ret
            exact ⟨by rw [HE.out]; rfl, HB.out⟩
      · subst h
        clear hlt hk
        have ix : ∀ w : World, (Instr.index 65 (.agg #[.int .i64 (a 0), .int .i64 (a 1), .int .i64 (a 2), .int .i64 (a 3), .int .i64 (a 4), .int .i64 (a 5), .int .i64 (a 6)]) (.int .i64 4)).run Tryd.prog w = .ok (.int .i64 (a 4)) w := fun _ => by kernel_rfl
        cases hz : okE (a 4) with
        | true =>
          have HS : Hid (goodFrom a 5 = goodD a) := Lib.hid (by rw [← HR.out, show goodFrom a 4 = (okE (a 4) && goodFrom a 5) from rfl, hz, Bool.true_and])
          obtain ⟨h1, h2⟩ := okE_true hz
          have h3 : ¬ a 4 < -200 := by omega
          have h4 : ¬ 200 < a 4 := by omega
          clear hz HR
          go_wp2_with fail
          go_round
          case rel => exact ⟨5, by go_num, by omega, HS⟩
          case measure => simp [intOf]
        | false =>
          have HE : Hid (goodD a = false) := Lib.hid (by rw [← HR.out, show goodFrom a 4 = (okE (a 4) && goodFrom a 5) from rfl, hz, Bool.false_and])
          clear HR
          rcases okE_false hz with h1 | h1
          all_goals
            clear hz
            go_wp2_with fail
            go_ret
            exact ⟨by rw [HE.out]; rfl, HB.out⟩
      · subst h
        clear hlt hk
        have ix : ∀ w : World, (Instr.index 65 (.agg #[.int .i64 (a 0), .int .i64 (a 1), .int .i64 (a 2), .int .i64 (a 3), .int .i64 (a 4), .int .i64 (a 5), .int .i64 (a 6)]) (.int .i64 5)).run Tryd.prog w = .ok (.int .i64 (a 5)) w := fun _ => by kernel_rfl
        cases hz : okE (a 5) with
        | true =>
          have HS : Hid (goodFrom a 6 = goodD a) := Lib.hid (by rw [← HR.out, show goodFrom a 5 = (okE (a 5) && goodFrom a 6) from rfl, hz, Bool.true_and])
          obtain ⟨h1, h2⟩ := okE_true hz
          have h3 : ¬ a 5 < -200 := by omega
          have h4 : ¬ 200 < a 5 := by omega
          clear hz HR
          go_wp2_with fail
          go_round
          case rel => exact ⟨6, by go_num, by omega, HS⟩
          case measure => simp [intOf]
        | false =>
          have HE : Hid (goodD a = false) := Lib.hid (by rw [← HR.out, show goodFrom a 5 = (okE (a 5) && goodFrom a 6) from rfl, hz, Bool.false_and])
          clear HR
          rcases okE_false hz with h1 | h1
          all_goals
            clear hz
            go_wp2_with fail
            go_ret
            exact ⟨by rw [HE.out]; rfl, HB.out⟩
      · subst h
        clear hlt hk
        have ix : ∀ w : World, (Instr.index 65 (.agg #[.int .i64 (a 0), .int .i64 (a 1), .int .i64 (a 2), .int .i64 (a 3), .int .i64 (a 4), .int .i64 (a 5), .int .i64 (a 6)]) (.int .i64 6)).run Tryd.prog w = .ok (.int .i64 (a 6)) w := fun _ => by kernel_rfl
        cases hz : okE (a 6) with
        | true =>
          have HS : Hid (goodFrom a 7 = goodD a) := Lib.hid (by rw [← HR.out, show goodFrom a 6 = (okE (a 6) && goodFrom a 7) from rfl, hz, Bool.true_and])
          obtain ⟨h1, h2⟩ := okE_true hz
          have h3 : ¬ a 6 < -200 := by omega
          have h4 : ¬ 200 < a 6 := by omega
          clear hz HR
          go_wp2_with fail
          go_round
          case rel => exact ⟨7, by go_num, by omega, HS⟩
          case measure => simp [intOf]
        | false =>
          have HE : Hid (goodD a = false) := Lib.hid (by rw [← HR.out, show goodFrom a 6 = (okE (a 6) && goodFrom a 7) from rfl, hz, Bool.false_and])
          clear HR
          rcases okE_false hz with h1 | h1
          all_goals
            clear hz
            go_wp2_with fail
            go_ret
            exact ⟨by rw [HE.out]; rfl, HB.out⟩
    · obtain rfl : k = 7 := by omega
      have HE : Hid (goodD a = true) := Lib.hid (by rw [← HR.out]; rfl)
      clear HR
      go_wp2_with fail
      go_ret
      exact ⟨by rw [HE.out]; rfl, HB.out⟩
end Go.Proofs.YtcajdkncohcaeaaDoor
