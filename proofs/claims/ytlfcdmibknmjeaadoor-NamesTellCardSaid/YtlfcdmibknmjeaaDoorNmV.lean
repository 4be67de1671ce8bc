import Derived.Test.YtlfcdmibknmjeaaDoorNmU
namespace Go.Proofs.YtlfcdmibknmjeaaDoor.E
open Go Go.Proofs.YtlfcdmibknmjeaaDoor.Ev
/-! ### NamesTell: a literal is the reference's -/
theorem head_is (s : ByteArray) (c : UInt8) (h : 0 < s.size) : strEq (s.extract 0 1) (ByteArray.mk #[c]) = (bAt s 0 == ((c.toNat : Nat) : Int)) := by
  obtain ⟨x, e1, e2⟩ := bAt_drop s 0 (by omega) (by omega)
  unfold strEq
  rw [ByteArray.toList_eq, ByteArray.toList_eq, e2]
  have e : (s.extract 0 1).data.toList = [x] := by
    simp only [ByteArray.data_extract, Array.toList_extract, List.extract_eq_take_drop]
    simp only [Int.toNat_zero, List.drop_zero] at e1
    rw [e1]; rfl
  rw [e, byte_eq x c.toNat c.toNat_lt]
  show ([x] == [c]) = (x == UInt8.ofNat c.toNat)
  simp
def hdAt (s : ByteArray) (i c : Int) : Bool := decide (i < (s.size : Int)) && (bAt s i == c)
theorem hdAt_lt {s : ByteArray} {i c : Int} (h : hdAt s i c = true) : i < s.size := by
  unfold hdAt at h
  simp only [Bool.and_eq_true, decide_eq_true_eq] at h
  exact h.1
theorem hdAt_ext (s : ByteArray) (a : Nat) (_ : a ≤ s.size) (i c : Int) (h0 : 0 ≤ i) : hdAt (s.extract a s.size) i c = hdAt s (i + a) c := by
  unfold hdAt
  rw [ext_at s a i h0, show decide (i < ((s.extract a s.size).size : Int)) = decide (i + a < (s.size : Int)) from decide_eq_decide.2 (by rw [ext_size]; omega)]
theorem cp_is (s : ByteArray) (c : UInt8) (n : Int) (hn : ((c.toNat : Nat) : Int) = n) : strings_CutPrefix.f s (ByteArray.mk #[c]) = some (bif hdAt s 0 n then (s.extract 1 s.size, true) else (s, false)) := by
  subst hn
  unfold strings_CutPrefix.f internal_stringslite_CutPrefix.f internal_stringslite_HasPrefix.f hdAt
  have e1 : (ByteArray.mk #[c]).size = 1 := rfl
  rw [e1]
  by_cases h : 0 < s.size
  · rw [show decide ((s.size : Int) ≥ ((1 : Nat) : Int)) = true by simp; omega, show decide (0 ≤ ((1 : Nat) : Int) ∧ ((1 : Nat) : Int) ≤ (s.size : Int)) = true by simp; omega, show decide (0 < (s.size : Int)) = true by simpa using h]
    rw [show Int.toNat ((1 : Nat) : Int) = 1 from rfl]
    simp only [cond_true, Option.bind_some, Bool.true_and]
    rw [head_is s c h]
    cases (bAt s 0 == ((c.toNat : Nat) : Int)) <;> rfl
  · rw [show decide ((s.size : Int) ≥ ((1 : Nat) : Int)) = false from df' (by omega), show decide (0 < (s.size : Int)) = false from df' (by omega)]
    rfl
theorem runE_ext (s : ByteArray) (a : Nat) (ha : a ≤ s.size) (i : Int) (h0 : 0 ≤ i) : runE (s.extract a s.size) i = runE s (i + a) - a := by
  unfold runE
  rw [runTo_ext s a ha _ i h0, ext_size, runTo_more s (s.size - a) s.size (i + a) (by omega) (by omega) (by omega)]
theorem runE_le (s : ByteArray) (i : Int) (h : i ≤ s.size) : i ≤ runE s i ∧ runE s i ≤ s.size := runTo_le s s.size i h
theorem run_v {s : ByteArray} (hs : s.size ≤ maxLen) : literal_run.V s = some (runE s 0) := lim_iff.2 (by
  unfold literal_run.f literal_run.b
  exact .ret (run_is s hs s.size 0 (by omega) (by omega)))
theorem rrun_v {s : ByteArray} (hs : s.size ≤ maxLen) {a : Int} (h0 : 0 ≤ a) (h1 : a ≤ s.size) : ref09_run.V s a = some (runE s a - a) := lim_iff.2 (by
  unfold ref09_run.f ref09_run.b
  have := rrun_is s hs a ⟨h0, h1⟩ s.size 0 (by omega) (by omega) (by omega)
  rw [Int.add_zero] at this
  exact .ret this)
def expAt (s : ByteArray) (i : Int) : Int :=
  bif hdAt s i 101 then
    (bif hdAt s (i + 1) 45 then (bif mnI (runE s (i + 2) - (i + 2)) 3 == (0 : Int) then 0 else mnI (runE s (i + 2) - (i + 2)) 3 + 2)
    else (bif mnI (runE s (i + 1) - (i + 1)) 3 == (0 : Int) then 0 else mnI (runE s (i + 1) - (i + 1)) 3 + 1))
  else 0
theorem mn3 (a : Int) (h : 0 ≤ a) : 0 ≤ mnI a 3 ∧ mnI a 3 ≤ 3 ∧ mnI a 3 ≤ a := by unfold mnI; split <;> omega
theorem expAt_le (s : ByteArray) (i : Int) (_ : 0 ≤ i) (h : i ≤ s.size) : 0 ≤ expAt s i ∧ i + expAt s i ≤ s.size := by
  unfold expAt
  cases h1 : hdAt s i 101 with
  | false => simp only [cond_false]; omega
  | true =>
    have l1 := hdAt_lt h1
    simp only [cond_true]
    cases h2 : hdAt s (i + 1) 45 with
    | true =>
      have l2 := hdAt_lt h2
      have b := runE_le s (i + 2) (by omega)
      have m := mn3 (runE s (i + 2) - (i + 2)) (by omega)
      simp only [cond_true]
      cases (mnI (runE s (i + 2) - (i + 2)) 3 == (0 : Int)) <;> simp only [cond_true, cond_false] <;> omega
    | false =>
      have b := runE_le s (i + 1) (by omega)
      have m := mn3 (runE s (i + 1) - (i + 1)) (by omega)
      simp only [cond_false]
      cases (mnI (runE s (i + 1) - (i + 1)) 3 == (0 : Int)) <;> simp only [cond_true, cond_false] <;> omega
theorem exponent_v {s : ByteArray} (hs : s.size ≤ maxLen) : literal_exponent.V s = some (expAt s 0) := by
  refine literal_exponent.v _ ?_
  unfold literal_exponent.b expAt
  rw [cp_is s 101 101 rfl, Option.bind_some]
  cases h1 : hdAt s 0 101 with
  | false => rfl
  | true =>
    have l1 := hdAt_lt h1
    have e1 : (s.extract 1 s.size).size = s.size - 1 := ext_size s 1
    have e2 : ((s.extract 1 s.size).extract 1 (s.extract 1 s.size).size).size = (s.extract 1 s.size).size - 1 := ext_size _ 1
    simp only [cond_true, Bool.not_true, cond_false]
    rw [cp_is (s.extract 1 s.size) 45 45 rfl, Option.bind_some, show hdAt (s.extract 1 s.size) 0 45 = hdAt s (0 + 1) 45 from hdAt_ext s 1 (by omega) 0 45 (by omega)]
    have hm : s.size ≤ 9223372036854775807 := by unfold maxLen at hs; omega
    cases h2 : hdAt s (0 + 1) 45 with
    | true =>
      have l2 := hdAt_lt h2
      simp only [cond_true]
      rw [run_v (by omega), Option.bind_some]
      have e3 : runE ((s.extract 1 s.size).extract 1 (s.extract 1 s.size).size) 0 = runE s (0 + 2) - (0 + 2) := by
        have k1 := runE_ext (s.extract 1 s.size) 1 (by omega) 0 (by omega)
        have k2 := runE_ext s 1 (by omega) 1 (by omega)
        have k1' : runE ((s.extract 1 s.size).extract 1 (s.extract 1 s.size).size) 0 = runE (s.extract 1 s.size) 1 - 1 := k1
        have k2' : runE (s.extract 1 s.size) 1 = runE s (0 + 2) - 1 := k2
        omega
      rw [e3]
      have b := runE_le s (0 + 2) (by omega)
      have m := mn3 (runE s (0 + 2) - (0 + 2)) (by omega)
      rw [wrap64 (by omega) (by omega)]
      cases (mnI (runE s (0 + 2) - (0 + 2)) 3 == (0 : Int)) <;> rfl
    | false =>
      simp only [cond_false]
      rw [run_v (by omega), Option.bind_some]
      have e3 : runE (s.extract 1 s.size) 0 = runE s (0 + 1) - (0 + 1) := runE_ext s 1 (by omega) 0 (by omega)
      rw [e3]
      have b := runE_le s (0 + 1) (by omega)
      have m := mn3 (runE s (0 + 1) - (0 + 1)) (by omega)
      rw [wrap64 (n := mnI (runE s (0 + 1) - (0 + 1)) 3 + 1) (by omega) (by omega)]
      cases (mnI (runE s (0 + 1) - (0 + 1)) 3 == (0 : Int)) <;> rfl
theorem expAt_ext (s : ByteArray) (a : Nat) (ha : a ≤ s.size) : expAt (s.extract a s.size) 0 = expAt s a := by
  unfold expAt
  rw [hdAt_ext s a ha 0 101 (by omega), hdAt_ext s a ha (0 + 1) 45 (by omega), runE_ext s a ha (0 + 2) (by omega), runE_ext s a ha (0 + 1) (by omega)]
  rw [show (0 : Int) + (a : Int) = a by omega, show (0 : Int) + 1 + (a : Int) = a + 1 by omega, show (0 : Int) + 2 + (a : Int) = a + 2 by omega, show runE s (↑a + 2) - ↑a - (0 + 2) = runE s (↑a + 2) - (↑a + 2) by omega, show runE s (↑a + 1) - ↑a - (0 + 1) = runE s (↑a + 1) - (↑a + 1) by omega]
/-- behind the digits: where a point's digits end, if there are any -/
def dotAt (s : ByteArray) (n : Int) : Int := bif hdAt s n 46 && decide (runE s (n + 1) - (n + 1) > 0) then runE s (n + 1) else n
def lenS (s : ByteArray) : Int := bif runE s 0 == (0 : Int) then 0 else dotAt s (runE s 0) + expAt s (dotAt s (runE s 0))
theorem dotAt_le (s : ByteArray) (n : Int) (h : n ≤ s.size) : n ≤ dotAt s n ∧ dotAt s n ≤ s.size := by
  unfold dotAt
  cases hc : hdAt s n 46 && decide (runE s (n + 1) - (n + 1) > 0) with
  | false => simp only [cond_false]; omega
  | true =>
    simp only [Bool.and_eq_true] at hc
    have l := hdAt_lt hc.1
    have b := runE_le s (n + 1) (by omega)
    simp only [cond_true]
    omega
theorem lenS_le (s : ByteArray) : 0 ≤ lenS s ∧ lenS s ≤ s.size := by
  have b := runE_le s 0 (by omega)
  have d := dotAt_le s (runE s 0) b.2
  have e := expAt_le s (dotAt s (runE s 0)) (by omega) d.2
  unfold lenS
  cases (runE s 0 == (0 : Int)) <;> simp only [cond_true, cond_false] <;> omega
theorem length_v {s : ByteArray} (hs : s.size ≤ maxLen) : literal_Length.V s = some (lenS s) := by
  have hm : s.size ≤ 9223372036854775807 := by unfold maxLen at hs; omega
  refine literal_Length.v _ ?_
  unfold literal_Length.b lenS
  rw [run_v hs, Option.bind_some]
  have b := runE_le s 0 (by omega)
  cases (runE s 0 == (0 : Int)) with
  | true => rfl
  | false =>
    simp only [cond_false]
    rw [dt' (show 0 ≤ runE s 0 ∧ runE s 0 ≤ (s.size : Int) by omega)]
    simp only [cond_true]
    rw [cp_is _ 46 46 rfl, Option.bind_some, hdAt_ext s _ (by omega) 0 46 (by omega), show (0 : Int) + ((runE s 0).toNat : Int) = runE s 0 by omega]
    have ee : ∀ n : Int, 0 ≤ n → n ≤ s.size → (Option.bind (literal_exponent.V (s.extract n.toNat s.size)) fun y4 => some (IntKind.wrap .i64 (n + y4))) = some (n + expAt s n) := by
      intro n h0 h1
      rw [exponent_v (by rw [ext_size]; omega), Option.bind_some, expAt_ext s n.toNat (by omega), show ((n.toNat : Nat) : Int) = n by omega]
      have := expAt_le s n h0 h1
      rw [wrap64 (by omega) (by omega)]
    unfold dotAt
    cases h1 : hdAt s (runE s 0) 46 with
    | false =>
      simp only [cond_false, Option.bind_some, Bool.false_and]
      rw [dt' (show 0 ≤ runE s 0 ∧ runE s 0 ≤ (s.size : Int) by omega)]
      exact ee _ b.1 b.2
    | true =>
      have l1 := hdAt_lt h1
      have z1 : (s.extract (runE s 0).toNat s.size).size = s.size - (runE s 0).toNat := ext_size _ _
      have z2 : ((s.extract (runE s 0).toNat s.size).extract 1 (s.extract (runE s 0).toNat s.size).size).size = (s.extract (runE s 0).toNat s.size).size - 1 := ext_size _ _
      simp only [cond_true, Bool.true_and]
      rw [run_v (by omega), Option.bind_some]
      have e3 : runE ((s.extract (runE s 0).toNat s.size).extract 1 (s.extract (runE s 0).toNat s.size).size) 0 = runE s (runE s 0 + 1) - (runE s 0 + 1) := by
        have k1 : runE ((s.extract (runE s 0).toNat s.size).extract 1 (s.extract (runE s 0).toNat s.size).size) 0 = runE (s.extract (runE s 0).toNat s.size) 1 - 1 := runE_ext _ 1 (by omega) 0 (by omega)
        have k2 := runE_ext s (runE s 0).toNat (by omega) 1 (by omega)
        rw [show (1 : Int) + ((runE s 0).toNat : Int) = runE s 0 + 1 by omega] at k2
        omega
      rw [e3]
      have b2 := runE_le s (runE s 0 + 1) (by omega)
      by_cases h2 : runE s (runE s 0 + 1) - (runE s 0 + 1) > 0
      · rw [dt' h2]
        simp only [cond_true, Option.bind_some]
        rw [wrap64 (n := 1 + (runE s (runE s 0 + 1) - (runE s 0 + 1))) (by omega) (by omega), wrap64 (n := runE s 0 + (1 + (runE s (runE s 0 + 1) - (runE s 0 + 1)))) (by omega) (by omega), show runE s 0 + (1 + (runE s (runE s 0 + 1) - (runE s 0 + 1))) = runE s (runE s 0 + 1) by omega]
        rw [dt' (show 0 ≤ runE s (runE s 0 + 1) ∧ runE s (runE s 0 + 1) ≤ (s.size : Int) by omega)]
        exact ee _ (by omega) b2.2
      · rw [df' h2]
        simp only [cond_false, Option.bind_some]
        rw [dt' (show 0 ≤ runE s 0 ∧ runE s 0 ≤ (s.size : Int) by omega)]
        exact ee _ b.1 b.2
theorem rlength_v {s : ByteArray} (hs : s.size ≤ maxLen) : ref09_Length.V s = some (lenS s) := by
  have hm : s.size ≤ 9223372036854775807 := by unfold maxLen at hs; omega
  refine ref09_Length.v _ ?_
  unfold ref09_Length.b lenS
  rw [rrun_v hs (by omega) (by omega), Option.bind_some, show runE s 0 - 0 = runE s 0 by omega]
  have b := runE_le s 0 (by omega)
  cases (runE s 0 == (0 : Int)) with
  | true => rfl
  | false =>
    simp only [cond_false]
    have d := dotAt_le s (runE s 0) b.2
    rw [show (bif (decide (runE s 0 < (s.size : Int))) then (bif (decide (((0 : Int) ≤ runE s 0) ∧ (runE s 0 < (s.size : Int)))) then (bif ((bAt s (runE s 0)) == (46 : Int)) then (Option.bind (ref09_run.V s (IntKind.wrap .i64 (runE s 0 + (1 : Int)))) fun y3 => (bif (decide (y3 > (0 : Int))) then (some (s, (IntKind.wrap .i64 (runE s 0 + (IntKind.wrap .i64 ((1 : Int) + y3)))))) else (some (s, runE s 0)))) else (some (s, runE s 0))) else none) else (some (s, runE s 0))) = some (s, dotAt s (runE s 0)) from ?_]
    · rw [Option.bind_some]
      generalize dotAt s (runE s 0) = n at d
      simp only
      have e := expAt_le s n (by omega) d.2
      unfold expAt hdAt
      by_cases hn : n < s.size
      · rw [dt' hn, dt' (show 0 ≤ n ∧ n < (s.size : Int) by omega)]
        cases bAt s n == (101 : Int) with
        | false => simp
        | true =>
          simp only [cond_true, Bool.true_and]
          rw [wrap64 (n := n + 1) (by omega) (by omega)]
          have fin : ∀ a : Int, 0 ≤ a → a ≤ s.size → (Option.bind (ref09_run.V s a) fun y5 => (bif (decide (y5 > (0 : Int))) then (some (IntKind.wrap .i64 (a + (mnI y5 (3 : Int))))) else (some n))) = some (bif mnI (runE s a - a) 3 == (0 : Int) then n else a + mnI (runE s a - a) 3) := by
            intro a h0 h1
            rw [rrun_v hs h0 h1, Option.bind_some]
            have b := runE_le s a h1
            have m := mn3 (runE s a - a) (by omega)
            rw [wrap64 (by omega) (by omega)]
            by_cases hz : runE s a - a > 0
            · have : ¬ mnI (runE s a - a) 3 = 0 := by unfold mnI; split <;> omega
              rw [dt' hz, show (mnI (runE s a - a) 3 == (0 : Int)) = false by simpa using this]; rfl
            · rw [df' hz, show (mnI (runE s a - a) 3 == (0 : Int)) = true by simp; omega]; rfl
          by_cases h2 : n + 1 < s.size
          · rw [dt' h2, dt' (show 0 ≤ n + 1 ∧ n + 1 < (s.size : Int) by omega)]
            cases bAt s (n + 1) == (45 : Int) with
            | true =>
              simp only [cond_true, Bool.true_and, Option.bind_some]
              rw [wrap64 (n := n + 1 + 1) (by omega) (by omega), show n + 1 + 1 = n + 2 by omega, fin _ (by omega) (by omega)]
              cases mnI (runE s (n + 2) - (n + 2)) 3 == (0 : Int)
              · simp only [cond_false]; congr 1; omega
              · simp only [cond_true]; congr 1; omega
            | false =>
              simp only [cond_true, cond_false, Bool.true_and, Option.bind_some]
              rw [fin _ (by omega) (by omega)]
              cases mnI (runE s (n + 1) - (n + 1)) 3 == (0 : Int)
              · simp only [cond_false]; congr 1; omega
              · simp only [cond_true]; congr 1; omega
          · rw [df' h2]
            simp only [cond_false, Bool.false_and, Option.bind_some]
            rw [fin _ (by omega) (by omega)]
            cases mnI (runE s (n + 1) - (n + 1)) 3 == (0 : Int)
            · simp only [cond_false]; congr 1; omega
            · simp only [cond_true]; congr 1; omega
      · rw [df' hn]; simp
    · unfold dotAt hdAt
      by_cases hn : runE s 0 < s.size
      · rw [dt' hn, dt' (show 0 ≤ runE s 0 ∧ runE s 0 < (s.size : Int) by omega)]
        cases bAt s (runE s 0) == (46 : Int) with
        | false => rfl
        | true =>
          simp only [cond_true, Bool.true_and]
          have b2 := runE_le s (runE s 0 + 1) (by omega)
          rw [wrap64 (n := runE s 0 + 1) (by omega) (by omega), rrun_v hs (by omega) (by omega), Option.bind_some]
          by_cases h2 : runE s (runE s 0 + 1) - (runE s 0 + 1) > 0
          · rw [dt' h2]
            simp only [cond_true]
            rw [wrap64 (n := 1 + (runE s (runE s 0 + 1) - (runE s 0 + 1))) (by omega) (by omega), wrap64 (n := runE s 0 + (1 + (runE s (runE s 0 + 1) - (runE s 0 + 1)))) (by omega) (by omega), show runE s 0 + (1 + (runE s (runE s 0 + 1) - (runE s 0 + 1))) = runE s (runE s 0 + 1) by omega]
          · rw [df' h2]; rfl
      · rw [df' hn]; rfl
def litB (s : ByteArray) : Bool := !(strEq s (ByteArray.mk #[])) && (decide ((s.size : Int) ≤ 400) && (lenS s == (s.size : Int)))
theorem lit_v {s : ByteArray} (hs : s.size ≤ maxLen) : literal_Good.V s = some (litB s) := by
  refine literal_Good.v _ ?_
  unfold literal_Good.b litB
  rw [length_v hs]
  cases strEq s (ByteArray.mk #[]) <;> cases decide ((s.size : Int) ≤ 400) <;> rfl
theorem rlit_v {s : ByteArray} (hs : s.size ≤ maxLen) : ref09_Good.V s = some (litB s) := by
  refine ref09_Good.v _ ?_
  unfold ref09_Good.b litB
  rw [rlength_v hs, ← empty_is]
  cases strEq s (ByteArray.mk #[]) <;> cases decide ((s.size : Int) ≤ 400) <;> rfl
end Go.Proofs.YtlfcdmibknmjeaaDoor.E
