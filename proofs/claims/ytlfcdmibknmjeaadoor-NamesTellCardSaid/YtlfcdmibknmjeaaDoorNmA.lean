import Derived.Test.YtlfcdmibknmjeaaDoorGN2
import Derived.Test.YtlfcdmibknmjeaaDoorEvM2
namespace Go.Proofs.YtlfcdmibknmjeaaDoor.E
open Go Go.Proofs.YtlfcdmibknmjeaaDoor.Ev
/-! ### names, literals: each text has an answer -/
theorem kind_tot {a : Int} (h : 0 ≤ a ∧ a < 256) : ∃ x, lex_kind.f a = some x := by
  unfold lex_kind.f
  rw [wrap64 (by omega) (by omega)]
  by_cases h1 : a ≥ 128
  · exact ⟨0, by simp [h1]⟩
  · exact ⟨_, by
      rw [show decide (a ≥ 128) = false by simpa using h1, show decide (0 ≤ a ∧ a < ((128 : Nat) : Int)) = true by simp; omega]
      rfl⟩
theorem word_tot (s : ByteArray) (hs : s.size ≤ maxLen) : ∀ (n : Nat) (i : Int), 0 ≤ i → i ≤ s.size → (s.size : Int) - i ≤ n → Evw (fun k => lex_word.l0 k s i) fun r => 0 ≤ r ∧ r ≤ s.size := by
  unfold maxLen at hs
  intro n
  induction n with
  | zero =>
    intro i h0 h1 h2
    refine .succ ?_
    simp only [lex_word.l0, lex_word.b0]
    refine .bind (R := fun y => y.1 = s ∧ y.2.1 = i ∧ y.2.2 = false) (.df (by omega) (.pure ⟨rfl, rfl, rfl⟩)) fun y hy => ?_
    exact .cf hy.2.2 (.pure (by rw [hy.2.1]; omega))
  | succ n ih =>
    intro i h0 h1 h2
    refine .succ ?_
    simp only [lex_word.l0, lex_word.b0]
    refine .bind (R := fun y => y.1 = s ∧ y.2.1 = i ∧ (y.2.2 = true → i < s.size)) ?_ fun y hy => ?_
    · refine .dec (fun hi => .dt (by omega) ?_) (fun hi => .pure ⟨rfl, rfl, fun h => by cases h⟩)
      obtain ⟨x, hx⟩ := kind_tot (bAt_lt s i)
      refine kb hx (.cond (fun _ => .pure ⟨rfl, rfl, fun _ => hi⟩) fun _ => .dec (fun _ => .dt (by omega) (kb hx (.pure ⟨rfl, rfl, fun _ => hi⟩))) fun _ => .pure ⟨rfl, rfl, fun h => by cases h⟩)
    · refine .cond (fun h => ?_) fun _ => .pure (by rw [hy.2.1]; exact ⟨h0, h1⟩)
      have hlt := hy.2.2 h
      rw [hy.1, hy.2.1, wrap64 (by omega) (by omega)]
      exact ih _ (by omega) (by omega) (by omega)
theorem sindex_tot (l : List ByteArray) (s : ByteArray) (hl : l.length ≤ maxLen) : ∀ (n : Nat) (i : Int), 0 ≤ i → (l.length : Int) - i ≤ n → Evw (fun k => slices_Index___string_string_.l0 k l s l.length i) fun _ => True := by
  unfold maxLen at hl
  intro n
  induction n with
  | zero =>
    intro i h0 h2
    refine .succ ?_
    simp only [slices_Index___string_string_.l0, slices_Index___string_string_.b0]
    exact .df (by omega) (.pure trivial)
  | succ n ih =>
    intro i h0 h2
    refine .succ ?_
    simp only [slices_Index___string_string_.l0, slices_Index___string_string_.b0]
    refine .dec (fun hi => .dt (by omega) (.cond (fun _ => .pure trivial) fun _ => ?_)) fun _ => .pure trivial
    rw [wrap64 (by omega) (by omega)]
    exact ih _ (by omega) (by omega)
theorem contains_tot (l : List ByteArray) (s : ByteArray) (hl : l.length ≤ maxLen) : Evw (fun k => slices_Contains___string_string_.f k l s) fun _ => True := by
  unfold slices_Contains___string_string_.f slices_Contains___string_string_.b slices_Index___string_string_.f slices_Index___string_string_.b
  refine .bind (R := fun _ => True) (.bind (sindex_tot l s hl l.length 0 (by omega) (by omega)) fun y _ => ?_) fun _ _ => .pure trivial
  cases y <;> exact .pure trivial
theorem run_tot (s : ByteArray) (hs : s.size ≤ maxLen) : ∀ (n : Nat) (i : Int), 0 ≤ i → i ≤ s.size → (s.size : Int) - i ≤ n → Evw (fun k => literal_run.l0 k s i) fun r => 0 ≤ r ∧ r ≤ s.size := by
  unfold maxLen at hs
  intro n
  induction n with
  | zero =>
    intro i h0 h1 h2
    refine .succ ?_
    simp only [literal_run.l0, literal_run.b0]
    exact .df (by omega) (.pure (by omega))
  | succ n ih =>
    intro i h0 h1 h2
    refine .succ ?_
    simp only [literal_run.l0, literal_run.b0]
    have hb := bAt_lt s i
    refine .dec (fun hi => .dt (by omega) (.dt (by omega) (.cond (fun _ => ?_) fun _ => .pure (by omega)))) fun _ => .pure (by omega)
    rw [wrap64 (by omega) (by omega)]
    exact ih _ (by omega) (by omega) (by omega)
theorem run_f (s : ByteArray) (hs : s.size ≤ maxLen) : Evw (fun k => literal_run.f k s) fun r => 0 ≤ r ∧ r ≤ s.size :=
  .bind (run_tot s hs s.size 0 (by omega) (by omega) (by omega)) fun _ h => .pure h
theorem ext_size (s : ByteArray) (a : Nat) : (s.extract a s.size).size = s.size - a := by simp
theorem cutPrefix_tot (s t : ByteArray) : ∃ y, strings_CutPrefix.f s t = some y ∧ (y.2 = true → y.1.size + t.size = s.size) ∧ (y.2 = false → y.1 = s) := by
  unfold strings_CutPrefix.f internal_stringslite_CutPrefix.f internal_stringslite_HasPrefix.f
  by_cases h : (s.size : Int) ≥ t.size
  · rw [show decide ((s.size : Int) ≥ t.size) = true by simpa using h, show decide (0 ≤ (t.size : Int) ∧ (t.size : Int) ≤ s.size) = true by simp; omega]
    simp only [cond_true, Option.bind_some]
    cases strEq (s.extract 0 (Int.toNat t.size)) t with
    | true => exact ⟨_, rfl, fun _ => by simp; omega, fun h => by cases h⟩
    | false => exact ⟨_, rfl, (fun h => by cases h), fun _ => rfl⟩
  · rw [show decide ((s.size : Int) ≥ t.size) = false by simpa using h]
    exact ⟨_, rfl, (fun h => by cases h), fun _ => rfl⟩
theorem exponent_tot (s : ByteArray) (hs : s.size ≤ maxLen) : Evw (fun k => literal_exponent.f k s) fun _ => True := by
  unfold literal_exponent.f literal_exponent.b
  obtain ⟨y, hy, h1, h2⟩ := cutPrefix_tot s (ByteArray.mk #[101])
  refine kb hy (.cond (fun _ => .pure trivial) fun hc => ?_)
  have hc : y.2 = true := by simpa using hc
  obtain ⟨z, hz, h3, h4⟩ := cutPrefix_tot y.1 (ByteArray.mk #[45])
  have hzs : z.1.size ≤ maxLen := by
    have e1 := h1 hc
    cases hz2 : z.2 with
    | true => have := h3 hz2; omega
    | false => rw [h4 hz2]; omega
  refine kb hz ?_
  exact .bind (run_f z.1 hzs) fun _ _ => .cond (fun _ => .pure trivial) fun _ => .cond (fun _ => .pure trivial) fun _ => .pure trivial
theorem length_tot (s : ByteArray) (hs : s.size ≤ maxLen) : Evw (fun k => literal_Length.f k s) fun _ => True := by
  unfold literal_Length.f literal_Length.b
  have hs' := hs
  unfold maxLen at hs'
  refine .bind (run_f s hs) fun n hn => .cond (fun _ => .pure trivial) fun _ => ?_
  refine .bind (R := fun y => y.1 = s ∧ (0 : Int) ≤ y.2 ∧ y.2 ≤ (s.size : Int)) (.dt (by omega) ?_) fun y hy => ?_
  · obtain ⟨y, hy, h1, h2⟩ := cutPrefix_tot (s.extract (Int.toNat n) s.size) (ByteArray.mk #[46])
    refine kb hy (.cond (fun hc => ?_) fun _ => .pure ⟨rfl, hn⟩)
    have e1 := h1 hc
    rw [ext_size, show (ByteArray.mk #[46]).size = 1 from rfl] at e1
    refine .bind (run_f y.1 (by unfold maxLen; omega)) fun m hm => .dec (fun _ => .bind (run_f y.1 (by unfold maxLen; omega)) fun m hm => .pure ⟨rfl, ?_⟩) fun _ => .pure ⟨rfl, hn⟩
    show 0 ≤ IntKind.wrap .i64 (n + IntKind.wrap .i64 (1 + m)) ∧ IntKind.wrap .i64 (n + IntKind.wrap .i64 (1 + m)) ≤ s.size
    rw [wrap64 (n := 1 + m) (by omega) (by omega), wrap64 (by omega) (by omega)]
    omega
  · rw [hy.1]
    exact .dt hy.2 (.bind (exponent_tot _ (by rw [ext_size]; omega)) fun _ _ => .pure trivial)
theorem good_tot (s : ByteArray) (hs : s.size ≤ maxLen) : Evw (fun k => literal_Good.f k s) fun _ => True := by
  unfold literal_Good.f literal_Good.b
  refine .bind (R := fun _ => True) ?_ fun _ _ => .pure trivial
  exact .cond (fun _ => .dec (fun _ => .bind (length_tot s hs) fun _ _ => .pure trivial) fun _ => .pure trivial) fun _ => .pure trivial
end Go.Proofs.YtlfcdmibknmjeaaDoor.E
