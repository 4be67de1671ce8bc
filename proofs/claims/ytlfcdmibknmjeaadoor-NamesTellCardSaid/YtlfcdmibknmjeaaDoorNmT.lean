import Derived.Test.YtlfcdmibknmjeaaDoorNmS
namespace Go.Proofs.YtlfcdmibknmjeaaDoor.E
open Go Go.Proofs.YtlfcdmibknmjeaaDoor.Ev
/-! ### NamesTell: runs of digits -/
theorem dig_all : ((List.range 256).all fun c => rdL false gv3 (c : Int) == digitB (c : Int)) = true := by kernel_rfl
theorem dig_is {a : Int} (h : 0 ≤ a ∧ a < 256) : rdL false gv3 a = digitB a := by
  have := List.all_eq_true.1 dig_all a.toNat (List.mem_range.2 (by omega))
  rw [show ((a.toNat : Nat) : Int) = a by omega] at this
  simpa using this
/-- where a run of digits ends -/
def runTo (s : ByteArray) : Nat → Int → Int
  | 0, i => i
  | n + 1, i => bif decide (i < (s.size : Int)) && digitB (bAt s i) then runTo s n (i + 1) else i
theorem runTo_le (s : ByteArray) : ∀ (n : Nat) (i : Int), i ≤ s.size → i ≤ runTo s n i ∧ runTo s n i ≤ s.size
  | 0, i, h => ⟨Int.le_refl _, h⟩
  | n + 1, i, h => by
    unfold runTo
    cases hc : decide (i < (s.size : Int)) && digitB (bAt s i) with
    | false => exact ⟨Int.le_refl _, h⟩
    | true =>
      simp only [Bool.and_eq_true, decide_eq_true_eq] at hc
      have := runTo_le s n (i + 1) (by omega)
      exact ⟨by show i ≤ runTo s n (i + 1); omega, this.2⟩
theorem run_is (s : ByteArray) (hs : s.size ≤ maxLen) : ∀ (n : Nat) (i : Int), 0 ≤ i → (s.size : Int) - i ≤ n → Evw (fun k => literal_run.l0 k s i) (· = runTo s n i) := by
  unfold maxLen at hs
  intro n
  induction n with
  | zero =>
    intro i h0 h2
    refine .succ ?_
    simp only [literal_run.l0, literal_run.b0]
    exact .df (by omega) (.pure rfl)
  | succ n ih =>
    intro i h0 h2
    refine .succ ?_
    simp only [literal_run.l0, literal_run.b0]
    unfold runTo
    have hb := bAt_lt s i
    refine .dec (fun hi => .dt ⟨h0, hi⟩ (.dt (by omega) ?_)) fun hi => .pure (by rw [show decide (i < (s.size : Int)) = false by simpa using hi]; rfl)
    rw [dig_is hb, show decide (i < (s.size : Int)) = true by simpa using hi]
    cases digitB (bAt s i) with
    | false => exact .pure rfl
    | true =>
      refine .ct rfl ?_
      rw [wrap64 (by omega) (by omega)]
      exact ih _ (by omega) (by omega)
theorem rrun_is (s : ByteArray) (hs : s.size ≤ maxLen) (a : Int) (ha : 0 ≤ a ∧ a ≤ s.size) : ∀ (n : Nat) (j : Int), 0 ≤ j → a + j ≤ s.size → (s.size : Int) - (a + j) ≤ n → Evw (fun k => ref09_run.l0 k s a j) (· = runTo s n (a + j) - a) := by
  unfold maxLen at hs
  intro n
  induction n with
  | zero =>
    intro j h0 h1 h2
    refine .succ ?_
    simp only [ref09_run.l0, ref09_run.b0]
    rw [wrap64 (n := a + j) (by omega) (by omega)]
    exact .bindv (.df (by omega) (.pure rfl)) (.cf rfl (.pure (by show j = a + j - a; omega)))
  | succ n ih =>
    intro j h0 h1 h2
    refine .succ ?_
    simp only [ref09_run.l0, ref09_run.b0]
    unfold runTo
    rw [wrap64 (n := a + j) (by omega) (by omega)]
    refine .bindv (x := (s, (a, (j, decide (a + j < (s.size : Int)) && digitB (bAt s (a + j)))))) ?_ ?_
    · refine .dec (fun hi => .dt ⟨by omega, hi⟩ ?_) fun hi => .pure (by rw [show decide (a + j < (s.size : Int)) = false by simpa using hi]; rfl)
      rw [show decide (a + j < (s.size : Int)) = true by simpa using hi]
      unfold digitB
      refine .dec (fun h => .dt ⟨by omega, hi⟩ (.pure (by rw [show decide (bAt s (a + j) ≥ 48) = true by simpa using h]; rfl))) fun h => .pure (by rw [show decide (bAt s (a + j) ≥ 48) = false by simpa using h]; rfl)
    · show Evw (fun k => _root_.cond (decide (a + j < (s.size : Int)) && digitB (bAt s (a + j))) (ref09_run.l0 k s a (IntKind.wrap .i64 (j + 1))) (some j)) _
      cases hc : decide (a + j < (s.size : Int)) && digitB (bAt s (a + j)) with
      | false => exact .pure (by show j = a + j - a; omega)
      | true =>
        simp only [Bool.and_eq_true, decide_eq_true_eq] at hc
        rw [wrap64 (n := j + 1) (by omega) (by omega)]
        have := ih (j + 1) (by omega) (by omega) (by omega)
        rw [show a + (j + 1) = a + j + 1 by omega] at this
        exact this
end Go.Proofs.YtlfcdmibknmjeaaDoor.E
