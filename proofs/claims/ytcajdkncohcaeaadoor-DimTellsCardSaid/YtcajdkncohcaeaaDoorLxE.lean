import Derived.Test.YtcajdkncohcaeaaDoorLxD
namespace Go.Proofs.YtcajdkncohcaeaaDoor
set_option linter.unusedVariables false
set_option linter.unusedSimpArgs false
open Go.RowKit

def goodL (s : ByteArray) : Bool := !s.toList.isEmpty && (decide (s.size ≤ 400) && decide (lenL s.data.toList = s.size))

theorem empty_size (s : ByteArray) : s.toList.isEmpty = decide (s.size = 0) := by
  rw [Lib.toList_data, Lib.size_eq]; cases s.data.toList <;> simp

set_option maxHeartbeats 1000000 in
theorem lgood_any (s : ByteArray) (w : World) (hs : s.size ≤ 140737488351232) (hG : Glob w) :
    Calls Tryd.prog 21 #[.string s] w fun e w' => e = .returned (.bool (goodL s)) ∧ w = w' := by
  cases h1 : s.toList.isEmpty with
  | true =>
    have HF : Hid (goodL s = false) := Lib.hid (by simp [goodL, h1])
    go_enter Tryd.func21, Tryd.ntmps21
    go_wp2_with fail
    go_ret
    exact ⟨by rw [HF.out]; rfl, rfl⟩
  | false =>
    by_cases h2 : s.size ≤ 400
    · obtain ⟨n, hn⟩ : ∃ n, lenL s.data.toList = n := ⟨_, rfl⟩
      have HF : Hid (goodL s = decide (n = s.size)) := Lib.hid (by simp [goodL, h1, h2, hn])
      by_cases h3 : n = s.size
      · have e1 : (n == s.size) = true := by simp [h3]
        have e2 : ((n : Int) == (s.size : Int)) = true := by simp [h3]
        have HF := Lib.hid (HF.out.trans (decide_eq_true h3))
        clear h3
        go_enter Tryd.func21, Tryd.ntmps21
        go_wp2_with (go_at_call 58; (with_reducible refine (length_any s _ hs hG).mono ?_); rintro e w' ⟨rfl, rfl⟩)
        go_ret
        exact ⟨by rw [HF.out]; rfl, rfl⟩
      · have e1 : (n == s.size) = false := by simp [h3]
        have e2 : ((n : Int) == (s.size : Int)) = false := by simp; omega
        have HF := Lib.hid (HF.out.trans (decide_eq_false h3))
        clear h3
        go_enter Tryd.func21, Tryd.ntmps21
        go_wp2_with (go_at_call 58; (with_reducible refine (length_any s _ hs hG).mono ?_); rintro e w' ⟨rfl, rfl⟩)
        go_ret
        exact ⟨by rw [HF.out]; rfl, rfl⟩
    · have HF : Hid (goodL s = false) := Lib.hid (by simp [goodL, h2])
      go_enter Tryd.func21, Tryd.ntmps21
      go_wp2_with fail
      go_ret
      exact ⟨by rw [HF.out]; rfl, rfl⟩

def isName (s : ByteArray) : Bool :=
  !s.toList.isEmpty && (decide (s.size ≤ 16) && (decide (wordFrom 0 s.data.toList = s.size) && !Lib.containsS wordsZ s))

set_option maxHeartbeats 1000000 in
theorem isName_any (s : ByteArray) (w : World) (hs : s.size ≤ 140737488351232) (hG : Glob w) :
    Calls Tryd.prog 19 #[.string s] w fun e w' => e = .returned (.bool (isName s)) ∧ w = w' := by
  have hcon : ∀ w : World, Glob w → Calls Tryd.prog 57 #[.slice (some ⟨0, 0, none⟩) 6 6, .string s] w fun e w' => e = .returned (.bool (Lib.containsS wordsZ s)) ∧ w = w' := fun w hG =>
    (Tryd.slices_Contains_string 0 0 6 6 wordsZ s w (by decide) (by decide) (fun j hj => by rw [Nat.zero_add]; exact hG.words j hj)).mono fun _ _ h => ⟨h.1, h.2.symm⟩
  have HC := Lib.hid hcon
  clear hcon
  cases h1 : s.toList.isEmpty with
  | true =>
    have HF : Hid (isName s = false) := Lib.hid (by simp [isName, h1])
    go_enter Tryd.func19, Tryd.ntmps19
    go_wp2_with fail
    go_ret
    exact ⟨by rw [HF.out]; rfl, rfl⟩
  | false =>
    by_cases h2 : s.size ≤ 16
    · obtain ⟨n, hn⟩ : ∃ n, wordFrom 0 s.data.toList = n := ⟨_, rfl⟩
      have HF : Hid (isName s = (decide (n = s.size) && !Lib.containsS wordsZ s)) := Lib.hid (by simp [isName, h1, h2, hn])
      by_cases h3 : n = s.size
      · have e1 : (n == s.size) = true := by simp [h3]
        have e2 : ((n : Int) == (s.size : Int)) = true := by simp [h3]
        have HF := Lib.hid (HF.out.trans (by rw [decide_eq_true h3]; rfl : _ = !Lib.containsS wordsZ s))
        clear h3
        go_enter Tryd.func19, Tryd.ntmps19
        go_wp2_with (first | (go_at_call 56; (with_reducible refine (word_any s _ hs hG).mono ?_); rintro e w' ⟨rfl, rfl⟩) | (go_at_call 57; (with_reducible refine (HC.out _ hG).mono ?_); rintro e w' ⟨rfl, rfl⟩))
        go_ret
        exact ⟨by rw [HF.out]; rfl, rfl⟩
      · have e1 : (n == s.size) = false := by simp [h3]
        have e2 : ((n : Int) == (s.size : Int)) = false := by simp; omega
        have HF := Lib.hid (HF.out.trans (by rw [decide_eq_false h3]; rfl : _ = false))
        clear h3
        go_enter Tryd.func19, Tryd.ntmps19
        go_wp2_with (first | (go_at_call 56; (with_reducible refine (word_any s _ hs hG).mono ?_); rintro e w' ⟨rfl, rfl⟩))
        go_ret
        exact ⟨by rw [HF.out]; rfl, rfl⟩
    · have HF : Hid (isName s = false) := Lib.hid (by simp [isName, h2])
      go_enter Tryd.func19, Tryd.ntmps19
      go_wp2_with fail
      go_ret
      exact ⟨by rw [HF.out]; rfl, rfl⟩
end Go.Proofs.YtcajdkncohcaeaaDoor
