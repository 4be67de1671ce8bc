import Derived.Test.YtcajdkncohcaeaaDoorVTrA
import Derived.Test.YtcajdkncohcaeaaDoorVLx
namespace Go.Proofs.YtcajdkncohcaeaaDoor
set_option linter.unusedVariables false
set_option linter.unusedSimpArgs false
open Go.RowKit Go.Proofs.YtcajdkncohcaeaaDoorW.PrintWords
theorem isEmpty_size (s : ByteArray) : s.toList.isEmpty = decide (s.size = 0) := by
  rw [Lib.toList_data]
  have := Lib.size_eq s
  cases h : s.data.toList with
  | nil => rw [h] at this; simp at this; simp [this]
  | cons x l => rw [h] at this; simp at this; simp [this]
set_option maxRecDepth 20000 in
set_option maxHeartbeats 2000000 in
theorem rlgood_any (s : ByteArray) (w : World) (hs : s.size ≤ 140737488351232) :
    Calls Tryd.prog 81 #[.string s] w fun e w' => e = .returned (.bool (goodL s)) ∧ w = w' := by
  have HV : Hid (goodL s = (decide (1 ≤ (s.size : Int)) && (decide ((s.size : Int) ≤ 400) && ((lenL s.data.toList : Int) == (s.size : Int))))) := Lib.hid (by
    unfold goodL
    rw [isEmpty_size]
    have a : (!decide (s.size = 0)) = decide (1 ≤ (s.size : Int)) := by by_cases h : s.size = 0 <;> simp [h]; omega
    have b : decide (s.size ≤ 400) = decide ((s.size : Int) ≤ 400) := by by_cases h : s.size ≤ 400 <;> simp [h] <;> omega
    have c : decide (lenL s.data.toList = s.size) = ((lenL s.data.toList : Int) == (s.size : Int)) := by by_cases h : lenL s.data.toList = s.size <;> simp [h] <;> omega
    rw [a, b, c])
  rw [HV.out]
  clear HV
  obtain ⟨n, hn⟩ : ∃ n, lenL s.data.toList = n := ⟨_, rfl⟩
  have KL : Hid (∀ w : World, Calls Tryd.prog 55 #[.string s] w fun e w' => e = .returned (.int .i64 n) ∧ w = w') := Lib.hid (fun w => by rw [← hn]; exact rlength_any s w hs)
  rw [hn]
  clear hn
  generalize h0 : decide (1 ≤ (s.size : Int)) = q0
  generalize h1 : decide ((s.size : Int) ≤ 400) = q1
  generalize h2 : ((n : Int) == (s.size : Int)) = q2
  rcases (show q0 = false ∨ (q0 = true ∧ q1 = false) ∨ (q0 = true ∧ q1 = true) from by cases q0 <;> cases q1 <;> simp) with rfl | ⟨rfl, rfl⟩ | ⟨rfl, rfl⟩
  all_goals
    go_enter Tryd.func81, Tryd.ntmps81
    go_wp2_with (go_at_call 55; (with_reducible refine (KL.out _).mono ?_); rintro e w' ⟨rfl, rfl⟩)
    go_ret
    exact ⟨rfl, rfl⟩
def cleanL (l : List UInt8) : Bool := l.all fun b => !(b == 93) && !(b == 10)
theorem index_all (c : UInt8) : ∀ l : List UInt8, (!decide (0 ≤ Lib.indexByte l c)) = l.all fun b => !(b == c)
  | [] => by rfl
  | b :: l => by
    have ih := index_all c l
    have hge := Lib.indexByte_ge l c
    rw [Lib.indexByte, List.all_cons, ← ih]
    cases hb : (b == c) with
    | true => simp
    | false =>
      simp only [Bool.false_eq_true, if_false, Bool.not_false, Bool.true_and]
      by_cases h : Lib.indexByte l c = -1
      · simp [h]
      · have : (Lib.indexByte l c == -1) = false := by simpa using h
        rw [this]
        simp only [Bool.false_eq_true, if_false]
        rw [decide_eq_true (by omega), decide_eq_true (by omega)]
theorem unitB_clean (s : ByteArray) : unitB s = (decide ((s.size : Int) ≤ 200) && cleanL s.data.toList) := by
  unfold unitB cleanL
  rw [index_all, index_all, show decide (s.size ≤ 200) = decide ((s.size : Int) ≤ 200) by by_cases h : s.size ≤ 200 <;> simp [h] <;> omega]
  congr 1
  generalize s.data.toList = l
  induction l with
  | nil => rfl
  | cons b l ih =>
    simp only [List.all_cons]
    rw [← ih]
    cases (b == 93) <;> cases (b == 10) <;> simp
set_option maxRecDepth 20000 in
set_option maxHeartbeats 2000000 in
theorem runits_any (s : ByteArray) (w : World) (hs : s.size ≤ 140737488351232) :
    Calls Tryd.prog 82 #[.string s] w fun e w' => e = .returned (.bool (unitB s)) ∧ w = w' := by
  have HV := Lib.hid (unitB_clean s)
  go_enter Tryd.func82, Tryd.ntmps82
  go_wp2_with fail
  go_loop [3] (fun i => ∃ k : Nat, i = .int .i64 k ∧ k ≤ s.size ∧ Hid (cleanL (s.data.toList.drop k) = cleanL s.data.toList)) (fun i => s.size - (intOf i).toNat)
  case atStart => exact ⟨0, rfl, Nat.zero_le _, Lib.hid rfl⟩
  case round =>
    obtain ⟨k, rfl, hk, HA⟩ := hrel
    by_cases hlt : k < s.size
    · have hd := drop_cons s k hlt
      have HS : Hid (((!(s[k] == 93) && !(s[k] == 10)) && cleanL (s.data.toList.drop (k + 1))) = cleanL s.data.toList) := Lib.hid (by rw [← HA.out, hd]; rfl)
      have hb : ∀ c : UInt8, (s[k] == c) = ((s[k].toNat : Int) == (c.toNat : Int)) := fun c => by
        rw [Bool.eq_iff_iff, beq_iff_eq, beq_iff_eq]
        constructor
        · intro h; rw [h]
        · intro h; exact UInt8.toNat_inj.1 (by omega)
      obtain ⟨p, hp⟩ : ∃ p, ((s[k].toNat : Int) == 93) = p := ⟨_, rfl⟩
      obtain ⟨q, hq⟩ : ∃ q, ((s[k].toNat : Int) == 10) = q := ⟨_, rfl⟩
      have HS2 : Hid (((!p && !q) && cleanL (s.data.toList.drop (k + 1))) = cleanL s.data.toList) := Lib.hid (by
        rw [← HS.out, hb 93, hb 10, ← hp, ← hq]; rfl)
      clear hd HA HS hb
      rcases (show p = true ∨ (p = false ∧ q = true) ∨ (p = false ∧ q = false) from by cases p <;> cases q <;> simp) with rfl | ⟨rfl, rfl⟩ | ⟨rfl, rfl⟩
      · have HF : Hid (unitB s = false) := Lib.hid (by rw [HV.out, ← HS2.out]; simp)
        go_wp2_with fail
        go_ret
        exact ⟨by rw [HF.out]; rfl, rfl⟩
      · have HF : Hid (unitB s = false) := Lib.hid (by rw [HV.out, ← HS2.out]; simp)
        go_wp2_with fail
        go_ret
        exact ⟨by rw [HF.out]; rfl, rfl⟩
      · have HS3 : Hid (cleanL (s.data.toList.drop (k + 1)) = cleanL s.data.toList) := Lib.hid (by rw [← HS2.out]; rfl)
        go_wp2_with fail
        go_round
        case rel => exact ⟨k + 1, by go_num, by omega, HS3⟩
        case measure => simp [intOf]; omega
    · obtain ⟨q, hq⟩ : ∃ q, decide ((s.size : Int) ≤ 200) = q := ⟨_, rfl⟩
      have HK : Hid (unitB s = q) := Lib.hid (by
        rw [HV.out, ← HA.out, List.drop_of_length_le (by rw [← Lib.size_eq]; omega), hq]; simp [cleanL])
      clear HA HV
      go_wp2_with fail
      go_ret
      exact ⟨by rw [HK.out]; rfl, rfl⟩
end Go.Proofs.YtcajdkncohcaeaaDoor
