import Derived.Test.YtcajdkncohcaeaaDoorLxE
namespace Go.Proofs.YtcajdkncohcaeaaDoor
set_option linter.unusedVariables false
set_option linter.unusedSimpArgs false
open Go.RowKit

def isBlank (c : Nat) : Bool := c == 32 || c == 9 || c == 10
/-- blanks and notes that a text begins with (true: within a note) -/
def skipL : Bool → List UInt8 → Nat
  | _, [] => 0
  | false, c :: l => if isBlank c.toNat then skipL false l + 1 else if c.toNat == 35 then skipL true l + 1 else 0
  | true, c :: l => if c.toNat == 10 then skipL false l + 1 else skipL true l + 1

theorem kind_blank (c : Nat) : (kindOf c == 1) = isBlank c := by
  unfold kindOf isBlank
  split
  · rename_i h; simp [h]
  · rename_i h; simp at h; repeat' split
    all_goals simp [h]
theorem kind_note (c : Nat) : (kindOf c == 5) = (c == 35) := by
  unfold kindOf
  repeat' split
  all_goals simp_all [isLetter, isDigit]
  all_goals omega
theorem skip_note : ∀ l : List UInt8, (skipL true l : Int) = if Lib.indexByte l 10 < 0 then (l.length : Int) else Lib.indexByte l 10 + skipL false (l.drop (Lib.indexByte l 10).toNat)
  | [] => by simp [skipL, Lib.indexByte]
  | c :: l => by
    have ih := skip_note l
    unfold Lib.indexByte
    by_cases hc : c = 10
    · subst hc; simp [skipL, isBlank]
    · have e1 : (c == 10) = false := by simpa using hc
      have e2 : (c.toNat == 10) = false := by
        simp; intro h; exact hc (UInt8.toNat_inj.1 (by simpa using h))
      have hge := Lib.indexByte_ge l 10
      rw [e1, skipL, e2]
      by_cases hm : Lib.indexByte l 10 = -1
      · rw [hm] at ih ⊢; simp at ih ⊢; omega
      · have e3 : (Lib.indexByte l 10 == -1) = false := by simpa using hm
        rw [e3, if_neg (by omega : ¬ Lib.indexByte l 10 < 0)] at *
        simp only [Bool.false_eq_true, if_false]
        rw [if_neg (by omega), show (Lib.indexByte l 10 + 1).toNat = (Lib.indexByte l 10).toNat + 1 by omega, List.drop_succ_cons]
        push_cast; omega
theorem indexByte_lt (l : List UInt8) (c : UInt8) : Lib.indexByte l c < l.length ∨ l = [] := by
  induction l with
  | nil => exact .inr rfl
  | cons b l ih =>
    left; unfold Lib.indexByte
    simp only [List.length_cons]
    repeat' split
    all_goals try omega
    rcases ih with h | h
    · omega
    · subst h; simp [Lib.indexByte] at *

set_option maxHeartbeats 2000000 in
theorem skipped_any (s : ByteArray) (w : World) (hs : s.size ≤ 140737488351232) (hG : Glob w) :
    Calls Tryd.prog 51 #[.string s] w fun e w' => e = .returned (.int .i64 (skipL false s.data.toList)) ∧ w = w' := by
  go_enter Tryd.func51, Tryd.ntmps51
  go_wp2_with fail
  go_loop [3, 4] (fun n _ => ∃ k : Nat, k ≤ s.size ∧ n = .int .i64 k ∧ Hid (k + skipL false (s.data.toList.drop k) = skipL false s.data.toList)) (fun n _ => s.size - (intOf n).toNat)
  case atStart => exact ⟨0, Nat.zero_le _, rfl, Lib.hid (by simp)⟩
  case round =>
    obtain ⟨k, hk, rfl, HW⟩ := hrel
    by_cases hlt : k < s.size
    · have hd := drop_cons s k hlt
      have hb : s[k].toNat ≤ 255 := Nat.le_of_lt_succ s[k].toNat_lt
      cases h1 : isBlank s[k].toNat with
      | true =>
        have e1 : (kindOf s[k].toNat == 1) = true := (kind_blank _).trans h1
        have HS : Hid (k + 1 + skipL false (s.data.toList.drop (k + 1)) = skipL false s.data.toList) := Lib.hid (by rw [← HW.out, hd, skipL, h1]; simp; omega)
        clear hd h1 HW
        go_wp2_with (go_at_call 71; (with_reducible refine (kind_any _ _ hb hG).mono ?_); rintro e w' ⟨rfl, rfl⟩)
        go_round
        case rel => exact ⟨k + 1, by omega, by go_num, HS⟩
        case measure => simp [intOf]; omega
      | false =>
        have e1 : (kindOf s[k].toNat == 1) = false := (kind_blank _).trans h1
        cases h2 : (s[k].toNat == 35) with
        | true =>
          have e2 : (kindOf s[k].toNat == 5) = true := (kind_note _).trans h2
          have hn := skip_note (s.data.toList.drop k)
          have hne := indexByte_lt (s.data.toList.drop k) 10
          have hz : skipL true (s.data.toList.drop k) = skipL false (s.data.toList.drop k) := by
            rw [hd, skipL, skipL, h1, h2]; simp; simp at h2; omega
          have ex : List.take (s.size - k) (s.data.toList.drop k) = s.data.toList.drop k := List.take_of_length_le (by simp)
          obtain ⟨i, hi⟩ : ∃ i, Lib.indexByte (s.data.toList.drop k) 10 = i := ⟨_, rfl⟩
          rw [hz, hi] at hn
          rw [hi] at hne
          have hlen : (s.data.toList.drop k).length = s.size - k := by simp
          rw [hlen] at hne
          by_cases hneg : i < 0
          · rw [if_pos hneg, hlen] at hn
            have HF : Hid (skipL false s.data.toList = s.size) := Lib.hid (by have := HW.out; omega)
            clear hd h1 h2 HW hn hz hlen hne
            go_wp2_with (first | (go_at_call 71; (with_reducible refine (kind_any _ _ hb hG).mono ?_); rintro e w' ⟨rfl, rfl⟩) | (go_at_call 72; (with_reducible refine (indexByte_any _ _ _).mono ?_); rintro e w' ⟨rfl, rfl⟩))
            go_ret
            exact ⟨by rw [HF.out]; rfl, rfl⟩
          · rw [if_neg hneg] at hn
            obtain ⟨j, rfl⟩ : ∃ j : Nat, i = j := ⟨i.toNat, by omega⟩
            have hj0 : 0 < j := by
              refine Nat.pos_of_ne_zero fun hj => ?_
              rw [hd, hj] at hi
              unfold Lib.indexByte at hi
              rw [show (s[k] == (10 : UInt8)) = false by simp; intro h; rw [h] at h2; simp at h2] at hi
              have := Lib.indexByte_ge (s.data.toList.drop (k + 1)) 10
              simp at hi
              split at hi <;> omega
            have hj1 : k + j ≤ s.size := by
              rcases hne with h | h
              · omega
              · rw [hd] at h; cases h
            have HS : Hid (k + j + skipL false (s.data.toList.drop (k + j)) = skipL false s.data.toList) := Lib.hid (by
              rw [← HW.out]; simp only [Int.toNat_natCast, List.drop_drop] at hn; omega)
            have e3 : decide ((j : Int) < 0) = false := by simp
            clear hd h1 h2 HW hn hz hlen hne hneg
            go_wp2_with (first | (go_at_call 71; (with_reducible refine (kind_any _ _ hb hG).mono ?_); rintro e w' ⟨rfl, rfl⟩) | (go_at_call 72; (with_reducible refine (indexByte_any _ _ _).mono ?_); rintro e w' ⟨rfl, rfl⟩))
            go_round
            case rel => exact ⟨k + j, by omega, by go_num, HS⟩
            case measure => simp [intOf]; omega
        | false =>
          have e2 : (kindOf s[k].toNat == 5) = false := (kind_note _).trans h2
          have HF : Hid (skipL false s.data.toList = k) := Lib.hid (by rw [← HW.out, hd, skipL, h1, h2]; simp)
          clear hd h1 h2 HW
          go_wp2_with (go_at_call 71; (with_reducible refine (kind_any _ _ hb hG).mono ?_); rintro e w' ⟨rfl, rfl⟩)
          go_ret
          exact ⟨by rw [HF.out]; rfl, rfl⟩
    · have HS : Hid (skipL false s.data.toList = k) := Lib.hid (by rw [← HW.out, List.drop_of_length_le (by simp; omega), skipL]; rfl)
      clear HW
      go_wp2_with fail
      go_ret
      exact ⟨by rw [HS.out]; rfl, rfl⟩
end Go.Proofs.YtcajdkncohcaeaaDoor
