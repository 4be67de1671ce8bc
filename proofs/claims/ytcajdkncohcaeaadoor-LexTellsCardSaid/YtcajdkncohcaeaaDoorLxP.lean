import Derived.Test.YtcajdkncohcaeaaDoorLxJ
namespace Go.Proofs.YtcajdkncohcaeaaDoor
set_option linter.unusedVariables false
set_option linter.unusedSimpArgs false
open Go.RowKit Go.Proofs.YtcajdkncohcaeaaDoorW.PrintWords

theorem isLetter_val (c : Nat) : isLetter c = decide ((97 ≤ c ∧ c ≤ 122) ∨ (65 ≤ c ∧ c ≤ 90) ∨ c = 95) := by
  rw [Bool.eq_iff_iff]; simp only [isLetter, Bool.or_eq_true, Bool.and_eq_true, decide_eq_true_eq, beq_iff_eq]; omega
theorem isDigit_val (c : Nat) : isDigit c = decide (48 ≤ c ∧ c ≤ 57) := by
  rw [Bool.eq_iff_iff]; simp only [isDigit, Bool.and_eq_true, decide_eq_true_eq]

set_option maxRecDepth 20000 in
set_option maxHeartbeats 1000000 in
theorem rletter_any (c : Nat) (w : World) (h1 : c ≤ 255) :
    Calls Tryd.prog 53 #[.int .u8 c] w fun e w' => e = .returned (.bool (isLetter c)) ∧ w = w' := by
  rcases (by omega : c < 65 ∨ (65 ≤ c ∧ c ≤ 90) ∨ (90 < c ∧ c < 97 ∧ c ≠ 95) ∨ (90 < c ∧ c < 97 ∧ c = 95) ∨ (97 ≤ c ∧ c ≤ 122) ∨ 122 < c) with g | ⟨g, g'⟩ | ⟨g, g', g0⟩ | ⟨g, g', g0⟩ | ⟨g, g'⟩ | g
  all_goals
    first
    | (have HV : Hid (isLetter c = true) := Lib.hid (by rw [isLetter_val]; exact decide_eq_true (by omega)))
    | (have HV : Hid (isLetter c = false) := Lib.hid (by rw [isLetter_val]; exact decide_eq_false (by omega)))
    first
    | (have e95 : ((c : Int) == 95) = false := by simp; omega)
    | (have e95 : ((c : Int) == 95) = true := by simp; omega)
    first | clear g0 | skip
    first | (have d122 : decide ((c : Int) ≤ 122) = true := by simp; omega) | (have d122 : decide ((c : Int) ≤ 122) = false := by simp; omega)
    first | (have d90 : decide ((c : Int) ≤ 90) = true := by simp; omega) | (have d90 : decide ((c : Int) ≤ 90) = false := by simp; omega)
    go_enter Tryd.func53, Tryd.ntmps53
    go_wp2_with fail
    go_ret
    exact ⟨by rw [HV.out]; rfl, rfl⟩
set_option maxRecDepth 20000 in
set_option maxHeartbeats 1000000 in
theorem rdigit_any (c : Nat) (w : World) (h1 : c ≤ 255) :
    Calls Tryd.prog 54 #[.int .u8 c] w fun e w' => e = .returned (.bool (isDigit c)) ∧ w = w' := by
  rcases (by omega : c < 48 ∨ (48 ≤ c ∧ c ≤ 57) ∨ 57 < c) with g | ⟨g, g'⟩ | g
  all_goals
    first
    | (have HV : Hid (isDigit c = true) := Lib.hid (by rw [isDigit_val]; exact decide_eq_true (by omega)))
    | (have HV : Hid (isDigit c = false) := Lib.hid (by rw [isDigit_val]; exact decide_eq_false (by omega)))
    first | (have d57 : decide ((c : Int) ≤ 57) = true := by simp; omega) | (have d57 : decide ((c : Int) ≤ 57) = false := by simp; omega)
    go_enter Tryd.func54, Tryd.ntmps54
    go_wp2_with fail
    go_ret
    exact ⟨by rw [HV.out]; rfl, rfl⟩

set_option maxRecDepth 20000 in
set_option maxHeartbeats 1000000 in
theorem rrun_any (s : ByteArray) (at_ : Nat) (w : World) (hs : s.size ≤ 140737488351232) (ha : at_ ≤ s.size) :
    Calls Tryd.prog 76 #[.string s, .int .i64 at_] w fun e w' => e = .returned (.int .i64 (runL (s.data.toList.drop at_))) ∧ w = w' := by
  go_enter Tryd.func76, Tryd.ntmps76
  go_wp2_with fail
  go_loop [5] (fun n => ∃ k : Nat, at_ + k ≤ s.size ∧ n = .int .i64 k ∧ Hid (k + runL (s.data.toList.drop (at_ + k)) = runL (s.data.toList.drop at_))) (fun n => s.size - (intOf n).toNat)
  case atStart => exact ⟨0, by omega, rfl, Lib.hid (by simp)⟩
  case round =>
    obtain ⟨k, hk, rfl, HW⟩ := hrel
    obtain ⟨i, hi⟩ : ∃ i, at_ + k = i := ⟨_, rfl⟩
    rw [hi] at hk HW
    by_cases hlt : i < s.size
    · have hd := drop_cons s i hlt
      have hb : s[i].toNat ≤ 255 := Nat.le_of_lt_succ s[i].toNat_lt
      cases h1 : isDigit s[i].toNat with
      | true =>
        have HS : Hid (k + 1 + runL (s.data.toList.drop (at_ + (k + 1))) = runL (s.data.toList.drop at_)) := Lib.hid (by rw [← HW.out, hd, runL, h1, ← Nat.add_assoc, hi]; simp; omega)
        rw [isDigit_val] at h1
        obtain ⟨g, g'⟩ := of_decide_eq_true h1
        clear hd h1 HW
        have hi' := Lib.hid hi
        have hii : ((at_ : Int) + (k : Int)) = (i : Int) := by omega
        clear hi
        go_wp2_with fail
        go_round
        case rel => exact ⟨k + 1, by have := hi'.out; omega, by go_num, HS⟩
        case measure => simp [intOf]; have := hi'.out; omega
      | false =>
        have HF : Hid (runL (s.data.toList.drop at_) = k) := Lib.hid (by rw [← HW.out, hd, runL, h1]; simp)
        rw [isDigit_val] at h1
        have h2 := of_decide_eq_false h1
        have hii : ((at_ : Int) + (k : Int)) = (i : Int) := by omega
        clear hd h1 HW hi
        rcases (by omega : s[i].toNat < 48 ∨ (48 ≤ s[i].toNat ∧ 57 < s[i].toNat)) with g | ⟨g, g'⟩
        all_goals
          clear h2
          go_wp2_with fail
          go_ret
          exact ⟨by rw [HF.out]; rfl, rfl⟩
    · have HF : Hid (runL (s.data.toList.drop at_) = k) := Lib.hid (by rw [← HW.out, List.drop_of_length_le (by rw [← Lib.size_eq]; omega), runL]; rfl)
      have hii : ((at_ : Int) + (k : Int)) = (i : Int) := by omega
      clear HW hi
      go_wp2_with fail
      go_ret
      exact ⟨by rw [HF.out]; rfl, rfl⟩
end Go.Proofs.YtcajdkncohcaeaaDoor
