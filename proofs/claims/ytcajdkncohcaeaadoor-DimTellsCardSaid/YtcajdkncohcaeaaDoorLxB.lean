import Derived.Test.YtcajdkncohcaeaaDoorLxA
namespace Go.Proofs.YtcajdkncohcaeaaDoor
set_option linter.unusedVariables false
set_option linter.unusedSimpArgs false
open Go.RowKit

theorem drop_cons (s : ByteArray) (k : Nat) (h : k < s.size) : s.data.toList.drop k = s[k] :: s.data.toList.drop (k + 1) := by
  rw [List.drop_eq_getElem_cons (by simpa using h)]; rfl

def isWordChar (c : UInt8) : Bool := isLetter c.toNat || isDigit c.toNat
/-- how many word bytes, where k are read -/
def wordFrom : Nat → List UInt8 → Nat
  | k, [] => k
  | k, c :: l => if isLetter c.toNat || (decide (0 < k) && isDigit c.toNat) then wordFrom (k + 1) l else k

theorem kind_letter (c : Nat) : (kindOf c == 2) = isLetter c := by
  unfold kindOf
  split
  · rename_i h; simp at h; simp [isLetter]; omega
  · split
    · rename_i h; simp [h]
    · rename_i h; simp at h; rw [h]; repeat' split
      all_goals rfl
theorem kind_digit (c : Nat) : (kindOf c == 3) = isDigit c := by
  unfold kindOf
  split
  · rename_i h; simp at h; simp [isDigit]; omega
  · split
    · rename_i h; simp [isLetter, isDigit] at *; omega
    · split
      · rename_i h; simp [h]
      · rename_i h; simp at h; rw [h]; repeat' split
        all_goals rfl

set_option maxHeartbeats 1000000 in
theorem word_any (s : ByteArray) (w : World) (hs : s.size ≤ 140737488351232) (hG : Glob w) :
    Calls Tryd.prog 56 #[.string s] w fun e w' => e = .returned (.int .i64 (wordFrom 0 s.data.toList)) ∧ w = w' := by
  go_enter Tryd.func56, Tryd.ntmps56
  go_wp2_with fail
  go_loop [3] (fun n => ∃ k : Nat, k ≤ s.size ∧ n = .int .i64 k ∧ Hid (wordFrom k (s.data.toList.drop k) = wordFrom 0 s.data.toList)) (fun n => s.size - (intOf n).toNat)
  case atStart => exact ⟨0, Nat.zero_le _, rfl, Lib.hid rfl⟩
  case round =>
    obtain ⟨k, hk, rfl, HW⟩ := hrel
    by_cases hlt : k < s.size
    · have hd := drop_cons s k hlt
      have hb : s[k].toNat ≤ 255 := Nat.le_of_lt_succ s[k].toNat_lt
      cases h1 : isLetter s[k].toNat with
      | true =>
        have e1 : (kindOf s[k].toNat == 2) = true := (kind_letter _).trans h1
        have HS : Hid (wordFrom (k + 1) (s.data.toList.drop (k + 1)) = wordFrom 0 s.data.toList) := Lib.hid (by rw [← HW.out, hd, wordFrom, h1]; simp)
        clear hd h1 HW
        go_wp2_with (go_at_call 71; (with_reducible refine (kind_any _ _ hb hG).mono ?_); rintro e w' ⟨rfl, rfl⟩)
        go_round
        case rel => exact ⟨k + 1, by omega, by go_num, HS⟩
        case measure => simp [intOf]; omega
      | false =>
        have e1 : (kindOf s[k].toNat == 2) = false := (kind_letter _).trans h1
        by_cases hk0 : 0 < k
        · cases h2 : isDigit s[k].toNat with
          | true =>
            have e2 : (kindOf s[k].toNat == 3) = true := (kind_digit _).trans h2
            have HS : Hid (wordFrom (k + 1) (s.data.toList.drop (k + 1)) = wordFrom 0 s.data.toList) := Lib.hid (by rw [← HW.out, hd, wordFrom, h1, h2]; simp [hk0])
            clear hd h1 h2 HW
            go_wp2_with (go_at_call 71; (with_reducible refine (kind_any _ _ hb hG).mono ?_); rintro e w' ⟨rfl, rfl⟩)
            go_round
            case rel => exact ⟨k + 1, by omega, by go_num, HS⟩
            case measure => simp [intOf]; omega
          | false =>
            have e2 : (kindOf s[k].toNat == 3) = false := (kind_digit _).trans h2
            have HS : Hid (wordFrom 0 s.data.toList = k) := Lib.hid (by rw [← HW.out, hd, wordFrom, h1, h2]; simp)
            clear hd h1 h2 HW
            go_wp2_with (go_at_call 71; (with_reducible refine (kind_any _ _ hb hG).mono ?_); rintro e w' ⟨rfl, rfl⟩)
            go_ret
            exact ⟨by rw [HS.out]; rfl, rfl⟩
        · have HS : Hid (wordFrom 0 s.data.toList = k) := Lib.hid (by rw [← HW.out, hd, wordFrom, h1]; simp [hk0])
          clear hd h1 HW
          go_wp2_with (go_at_call 71; (with_reducible refine (kind_any _ _ hb hG).mono ?_); rintro e w' ⟨rfl, rfl⟩)
          go_ret
          exact ⟨by rw [HS.out]; rfl, rfl⟩
    · have HS : Hid (wordFrom 0 s.data.toList = k) := Lib.hid (by rw [← HW.out, List.drop_of_length_le (by simp; omega), wordFrom])
      clear HW
      go_wp2_with fail
      go_ret
      exact ⟨by rw [HS.out]; rfl, rfl⟩
end Go.Proofs.YtcajdkncohcaeaaDoor
