import Derived.Test.YtcajdkncohcaeaaDoorLxB
import Derived.Test.YtcajdkncohcaeaaDoorShelf
import Derived.WalkLawsBesides
namespace Go.Proofs.YtcajdkncohcaeaaDoor
set_option linter.unusedVariables false
set_option linter.unusedSimpArgs false
open Go.RowKit

/-- how many digits a text begins with -/
def runL : List UInt8 → Nat
  | [] => 0
  | c :: l => if isDigit c.toNat then runL l + 1 else 0
theorem runL_le : ∀ l : List UInt8, runL l ≤ l.length
  | [] => Nat.le_refl _
  | c :: l => by
    unfold runL; split
    · simpa using runL_le l
    · omega

set_option maxHeartbeats 1000000 in
theorem run_any (s : ByteArray) (w : World) (hs : s.size ≤ 140737488351232) (hG : Glob w) :
    Calls Tryd.prog 78 #[.string s] w fun e w' => e = .returned (.int .i64 (runL s.data.toList)) ∧ w = w' := by
  go_enter Tryd.func78, Tryd.ntmps78
  go_wp2_with fail
  go_loop [3] (fun n => ∃ k : Nat, k ≤ s.size ∧ n = .int .i64 k ∧ Hid (k + runL (s.data.toList.drop k) = runL s.data.toList)) (fun n => s.size - (intOf n).toNat)
  case atStart => exact ⟨0, Nat.zero_le _, rfl, Lib.hid (by simp)⟩
  case round =>
    obtain ⟨k, hk, rfl, HW⟩ := hrel
    by_cases hlt : k < s.size
    · have hd := drop_cons s k hlt
      have hb : s[k].toNat ≤ 255 := Nat.le_of_lt_succ s[k].toNat_lt
      have hc := hG.digit s[k].toNat (by omega)
      cases h1 : isDigit s[k].toNat with
      | true =>
        rw [h1] at hc
        have HS : Hid (k + 1 + runL (s.data.toList.drop (k + 1)) = runL s.data.toList) := Lib.hid (by rw [← HW.out, hd, runL, h1]; simp; omega)
        clear hd h1 HW
        go_wp2_with fail
        go_round
        case rel => exact ⟨k + 1, by omega, by go_num, HS⟩
        case measure => simp [intOf]; omega
      | false =>
        rw [h1] at hc
        have HS : Hid (runL s.data.toList = k) := Lib.hid (by rw [← HW.out, hd, runL, h1]; simp)
        clear hd h1 HW
        go_wp2_with fail
        go_ret
        exact ⟨by rw [HS.out]; rfl, rfl⟩
    · have HS : Hid (runL s.data.toList = k) := Lib.hid (by rw [← HW.out, List.drop_of_length_le (by simp; omega), runL]; rfl)
      clear HW
      go_wp2_with fail
      go_ret
      exact ⟨by rw [HS.out]; rfl, rfl⟩

/-- behind an e: a sign, some digits -/
def expL (l : List UInt8) : Nat :=
  if Lib.hasPrefix l [101] then
    let t := l.drop 1
    if Lib.hasPrefix t [45] then (if runL (t.drop 1) = 0 then 0 else min (runL (t.drop 1)) 3 + 2)
    else if runL t = 0 then 0 else min (runL t) 3 + 1
  else 0

theorem cutPrefix_any (s p : ByteArray) (w : World) :
    Calls Tryd.prog 79 #[.string s, .string p] w fun e w' => e = .returned (.tuple #[.string ⟨(Lib.trimPrefix s.data.toList p.data.toList).toArray⟩, .bool (Lib.hasPrefix s.data.toList p.data.toList)]) ∧ w = w' :=
  (Tryd.strings_CutPrefix s p w).mono fun _ _ h => ⟨h.1, h.2.symm⟩
theorem indexByte_any (s : ByteArray) (c : Int) (w : World) :
    Calls Tryd.prog 72 #[.string s, .int .u8 c] w fun e w' => e = .returned (.int .i64 (Lib.indexByte s.data.toList c.toNat.toUInt8)) ∧ w = w' :=
  (Tryd.strings_IndexByte s c w).mono fun _ _ h => ⟨h.1, h.2.symm⟩
theorem contains1_any (s : ByteArray) (c : UInt8) (w : World) :
    Calls Tryd.prog 94 #[.string s, .string ⟨#[c]⟩] w fun e w' => e = .returned (.bool (decide (0 ≤ Lib.indexByte s.data.toList c))) ∧ w = w' :=
  (Tryd.strings_Contains_one s c w).mono fun _ _ h => ⟨h.1, h.2.symm⟩

/-- run at a list's text -/
theorem runB_any (l : List UInt8) (w : World) (hs : l.length ≤ 140737488351232) (hG : Glob w) :
    Calls Tryd.prog 78 #[.string ⟨l.toArray⟩] w fun e w' => e = .returned (.int .i64 (runL l)) ∧ w = w' :=
  run_any ⟨l.toArray⟩ w (by simpa [ByteArray.size] using hs) hG

set_option maxHeartbeats 1000000 in
theorem exponent_any (s : ByteArray) (w : World) (hs : s.size ≤ 140737488351232) (hG : Glob w) :
    Calls Tryd.prog 80 #[.string s] w fun e w' => e = .returned (.int .i64 (expL s.data.toList)) ∧ w = w' := by
  cases h1 : Lib.hasPrefix s.data.toList [101] with
  | false =>
    have HE : Hid (expL s.data.toList = 0) := Lib.hid (by simp [expL, h1])
    go_enter Tryd.func80, Tryd.ntmps80
    go_wp2_with (go_at_call 79; (with_reducible refine (cutPrefix_any _ _ _).mono ?_); rintro e w' ⟨rfl, rfl⟩)
    go_ret
    exact ⟨by rw [HE.out]; rfl, rfl⟩
  | true =>
    obtain ⟨t, ht⟩ : ∃ t, Lib.trimPrefix s.data.toList [101] = t := ⟨_, rfl⟩
    have ht2 : t = s.data.toList.drop 1 := by rw [← ht, Lib.trimPrefix, if_pos h1]; rfl
    have hl : t.length ≤ 140737488351232 := by rw [ht2]; simp; omega
    have HE : Hid (expL s.data.toList = if Lib.hasPrefix t [45] then (if runL (t.drop 1) = 0 then 0 else min (runL (t.drop 1)) 3 + 2)
      else if runL t = 0 then 0 else min (runL t) 3 + 1) := Lib.hid (by simp only [expL, h1, if_true, ← ht2])
    clear ht2
    cases h2 : Lib.hasPrefix t [45] with
    | false =>
      have h3 : Lib.trimPrefix t [45] = t := by rw [Lib.trimPrefix, if_neg (by simp [h2])]
      obtain ⟨n, hn⟩ : ∃ n, runL t = n := ⟨_, rfl⟩
      rcases (by omega : n = 0 ∨ (0 < n ∧ n < 3) ∨ 3 ≤ n) with hn0 | ⟨hn0, hn3⟩ | hn3
      · have HF : Hid (expL s.data.toList = 0) := Lib.hid (by rw [HE.out]; simp [h2, hn, hn0])
        subst hn0
        go_enter Tryd.func80, Tryd.ntmps80
        go_wp2_with (first | (go_at_call 79; (with_reducible refine (cutPrefix_any _ _ _).mono ?_); rintro e w' ⟨rfl, rfl⟩) | (go_at_call 78; (with_reducible refine (runB_any _ _ (by omega) hG).mono ?_); rintro e w' ⟨rfl, rfl⟩))
        go_ret
        exact ⟨by rw [HF.out]; rfl, rfl⟩
      · have HF : Hid (expL s.data.toList = n + 1) := Lib.hid (by rw [HE.out, if_neg (by simp [h2]), hn, if_neg (by omega)]; omega)
        have e0 : ((n : Int) == 0) = false := by simp; omega
        have e1 : min (n : Int) 3 = n := by omega
        go_enter Tryd.func80, Tryd.ntmps80
        go_wp2_with (first | (go_at_call 79; (with_reducible refine (cutPrefix_any _ _ _).mono ?_); rintro e w' ⟨rfl, rfl⟩) | (go_at_call 78; (with_reducible refine (runB_any _ _ (by omega) hG).mono ?_); rintro e w' ⟨rfl, rfl⟩))
        go_ret
        exact ⟨by rw [HF.out]; rfl, rfl⟩
      · have HF : Hid (expL s.data.toList = 3 + 1) := Lib.hid (by rw [HE.out, if_neg (by simp [h2]), hn, if_neg (by omega)]; omega)
        have e0 : ((n : Int) == 0) = false := by simp; omega
        have e1 : min (n : Int) 3 = 3 := by omega
        go_enter Tryd.func80, Tryd.ntmps80
        go_wp2_with (first | (go_at_call 79; (with_reducible refine (cutPrefix_any _ _ _).mono ?_); rintro e w' ⟨rfl, rfl⟩) | (go_at_call 78; (with_reducible refine (runB_any _ _ (by omega) hG).mono ?_); rintro e w' ⟨rfl, rfl⟩))
        go_ret
        exact ⟨by rw [HF.out]; rfl, rfl⟩
    | true =>
      obtain ⟨u, hu⟩ : ∃ u, Lib.trimPrefix t [45] = u := ⟨_, rfl⟩
      have hu2 : t.drop 1 = u := by rw [← hu, Lib.trimPrefix, if_pos h2]; rfl
      have hl2 : u.length ≤ 140737488351232 := by rw [← hu2]; simp; omega
      obtain ⟨n, hn⟩ : ∃ n, runL u = n := ⟨_, rfl⟩
      rcases (by omega : n = 0 ∨ (0 < n ∧ n < 3) ∨ 3 ≤ n) with hn0 | ⟨hn0, hn3⟩ | hn3
      · have HF : Hid (expL s.data.toList = 0) := Lib.hid (by rw [HE.out]; simp [h2, hu2, hn, hn0])
        subst hn0
        go_enter Tryd.func80, Tryd.ntmps80
        go_wp2_with (first | (go_at_call 79; (with_reducible refine (cutPrefix_any _ _ _).mono ?_); rintro e w' ⟨rfl, rfl⟩) | (go_at_call 78; (with_reducible refine (runB_any _ _ (by omega) hG).mono ?_); rintro e w' ⟨rfl, rfl⟩))
        go_ret
        exact ⟨by rw [HF.out]; rfl, rfl⟩
      · have HF : Hid (expL s.data.toList = n + 2) := Lib.hid (by rw [HE.out, if_pos h2, hu2, hn, if_neg (by omega)]; omega)
        have e0 : ((n : Int) == 0) = false := by simp; omega
        have e1 : min (n : Int) 3 = n := by omega
        go_enter Tryd.func80, Tryd.ntmps80
        go_wp2_with (first | (go_at_call 79; (with_reducible refine (cutPrefix_any _ _ _).mono ?_); rintro e w' ⟨rfl, rfl⟩) | (go_at_call 78; (with_reducible refine (runB_any _ _ (by omega) hG).mono ?_); rintro e w' ⟨rfl, rfl⟩))
        go_ret
        exact ⟨by rw [HF.out]; rfl, rfl⟩
      · have HF : Hid (expL s.data.toList = 3 + 2) := Lib.hid (by rw [HE.out, if_pos h2, hu2, hn, if_neg (by omega)]; omega)
        have e0 : ((n : Int) == 0) = false := by simp; omega
        have e1 : min (n : Int) 3 = 3 := by omega
        go_enter Tryd.func80, Tryd.ntmps80
        go_wp2_with (first | (go_at_call 79; (with_reducible refine (cutPrefix_any _ _ _).mono ?_); rintro e w' ⟨rfl, rfl⟩) | (go_at_call 78; (with_reducible refine (runB_any _ _ (by omega) hG).mono ?_); rintro e w' ⟨rfl, rfl⟩))
        go_ret
        exact ⟨by rw [HF.out]; rfl, rfl⟩
end Go.Proofs.YtcajdkncohcaeaaDoor
