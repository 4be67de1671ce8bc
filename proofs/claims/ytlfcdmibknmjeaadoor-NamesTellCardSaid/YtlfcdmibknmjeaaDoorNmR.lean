import Derived.Test.YtlfcdmibknmjeaaDoorNmQ
namespace Go.Proofs.YtlfcdmibknmjeaaDoor.E
open Go Go.Proofs.YtlfcdmibknmjeaaDoor.Ev
/-! ### NamesTell: lex.IsName is the reference's -/
def kindB (a : Int) : Int := bif decide (a ≥ 128) then 0 else rdL (0 : Int) gv1 a
def letterB (a : Int) : Bool := (decide (a ≥ 97) && decide (a ≤ 122)) || ((decide (a ≥ 65) && decide (a ≤ 90)) || (a == (95 : Int)))
def digitB (a : Int) : Bool := decide (a ≥ 48) && decide (a ≤ 57)
theorem kind_is {a : Int} (h : 0 ≤ a ∧ a < 256) : lex_kind.f a = some (kindB a) := by
  unfold lex_kind.f kindB
  rw [wrap64 (by omega) (by omega)]
  by_cases h1 : a ≥ 128
  · rw [show decide (a ≥ 128) = true by simpa using h1]; rfl
  · rw [show decide (a ≥ 128) = false by simpa using h1, show decide (0 ≤ a ∧ a < ((128 : Nat) : Int)) = true by simp; omega]; rfl
theorem letter_is (a : Int) : ref13_letter.f a = some (letterB a) := by
  unfold ref13_letter.f letterB
  cases decide (a ≥ 97) <;> cases decide (a ≤ 122) <;> cases decide (a ≥ 65) <;> cases decide (a ≤ 90) <;> rfl
theorem digit_is (a : Int) : ref13_digit.f a = some (digitB a) := by
  unfold ref13_digit.f digitB
  cases decide (a ≥ 48) <;> rfl
theorem table_all : ((List.range 256).all fun c => ((kindB (c : Int) == (2 : Int)) == letterB (c : Int)) && ((kindB (c : Int) == (3 : Int)) == digitB (c : Int))) = true := by kernel_rfl
theorem table {a : Int} (h : 0 ≤ a ∧ a < 256) : (kindB a == (2 : Int)) = letterB a ∧ (kindB a == (3 : Int)) = digitB a := by
  have := List.all_eq_true.1 table_all a.toNat (List.mem_range.2 (by omega))
  rw [show ((a.toNat : Nat) : Int) = a by omega] at this
  simpa using this
def okAt (s : ByteArray) (i : Int) : Bool := letterB (bAt s i) || (decide (i > 0) && digitB (bAt s i))
def wordTo (s : ByteArray) : Nat → Int → Int
  | 0, i => i
  | n + 1, i => bif decide (i < (s.size : Int)) && okAt s i then wordTo s n (i + 1) else i
def allTo (s : ByteArray) : Nat → Int → Bool
  | 0, _ => true
  | n + 1, i => bif decide (i < (s.size : Int)) then okAt s i && allTo s n (i + 1) else true
theorem wordTo_all (s : ByteArray) : ∀ (n : Nat) (i : Int), 0 ≤ i → i ≤ s.size → (s.size : Int) - i ≤ n → (wordTo s n i == (s.size : Int)) = allTo s n i
  | 0, i, h0, h1, h2 => by unfold wordTo allTo; simp; omega
  | n + 1, i, h0, h1, h2 => by
    unfold wordTo allTo
    by_cases hi : i < (s.size : Int)
    · rw [show decide (i < (s.size : Int)) = true by simpa using hi]
      cases okAt s i with
      | true => exact wordTo_all s n (i + 1) (by omega) (by omega) (by omega)
      | false => simp; omega
    · rw [show decide (i < (s.size : Int)) = false by simpa using hi]
      simp
      omega
theorem word_is (s : ByteArray) (hs : s.size ≤ maxLen) : ∀ (n : Nat) (i : Int), 0 ≤ i → i ≤ s.size → (s.size : Int) - i ≤ n → Evw (fun k => lex_word.l0 k s i) (· = wordTo s n i) := by
  unfold maxLen at hs
  intro n
  induction n with
  | zero =>
    intro i h0 h1 h2
    refine .succ ?_
    simp only [lex_word.l0, lex_word.b0]
    exact .bindv (.df (by omega) (.pure rfl)) (.pure rfl)
  | succ n ih =>
    intro i h0 h1 h2
    refine .succ ?_
    simp only [lex_word.l0, lex_word.b0]
    refine .bindv (x := (s, (i, decide (i < (s.size : Int)) && okAt s i))) ?_ ?_
    · refine .dec (fun hi => .dt ⟨h0, hi⟩ (kb (kind_is (bAt_lt s i)) ?_)) fun hi => .pure (by rw [show decide (i < (s.size : Int)) = false by simpa using hi]; rfl)
      rw [show decide (i < (s.size : Int)) = true by simpa using hi]
      unfold okAt
      rw [(table (bAt_lt s i)).1]
      cases letterB (bAt s i) with
      | true => exact .pure rfl
      | false =>
        refine .cf rfl (.dec (fun h => .dt ⟨h0, hi⟩ (kb (kind_is (bAt_lt s i)) (.pure ?_))) fun h => .pure ?_)
        · rw [(table (bAt_lt s i)).2, show decide (i > 0) = true by simpa using h]; rfl
        · rw [show decide (i > 0) = false by simpa using h]; rfl
    · unfold wordTo
      show Evw (fun k => _root_.cond (decide (i < (s.size : Int)) && okAt s i) (lex_word.l0 k s (IntKind.wrap .i64 (i + 1))) (some i)) _
      cases hc : decide (i < (s.size : Int)) && okAt s i with
      | false => exact .pure rfl
      | true =>
        simp only [Bool.and_eq_true, decide_eq_true_eq] at hc
        rw [wrap64 (by omega) (by omega)]
        exact ih _ (by omega) (by omega) (by omega)
theorem rname_l (s : ByteArray) (hs : s.size ≤ maxLen) : ∀ (n : Nat) (i : Int), 0 ≤ i → i ≤ s.size → (s.size : Int) - i ≤ n → Evw (fun k => ref13_IsName.l0 k s i) (· = bif allTo s n i then Sum.inl s else Sum.inr false) := by
  unfold maxLen at hs
  intro n
  induction n with
  | zero =>
    intro i h0 h1 h2
    refine .succ ?_
    simp only [ref13_IsName.l0, ref13_IsName.b0]
    exact .df (by omega) (.pure rfl)
  | succ n ih =>
    intro i h0 h1 h2
    refine .succ ?_
    simp only [ref13_IsName.l0, ref13_IsName.b0]
    unfold allTo
    refine .dec (fun hi => ?_) fun hi => .pure (by rw [show decide (i < (s.size : Int)) = false by simpa using hi]; rfl)
    rw [show decide (i < (s.size : Int)) = true by simpa using hi]
    refine .bindv (x := (s, (i, !okAt s i))) ?_ ?_
    · refine .dt ⟨h0, hi⟩ (kb (letter_is _) ?_)
      unfold okAt
      cases letterB (bAt s i) with
      | true => exact .pure rfl
      | false =>
        refine .ct rfl ?_
        by_cases hz : i = 0
        · subst hz; exact .pure rfl
        · refine .cf (by simpa using hz) (.dt ⟨h0, hi⟩ (kb (digit_is _) (.pure ?_)))
          rw [show decide (i > 0) = true by simp; omega]; rfl
    · cases okAt s i with
      | false => exact .pure rfl
      | true =>
        show Evw (fun k => ref13_IsName.l0 k s (IntKind.wrap .i64 (i + 1))) _
        rw [wrap64 (by omega) (by omega)]
        exact ih _ (by omega) (by omega) (by omega)
theorem sindex_is (l : List ByteArray) (s : ByteArray) (hl : l.length ≤ 6000) : ∀ (n : Nat) (i : Int), 0 ≤ i → (l.length : Int) - i ≤ n → Evw (fun k => slices_Index___string_string_.l0 k l s l.length i) fun r => match r with | .inl _ => (l.drop i.toNat).any (strEq s) = false | .inr j => 0 ≤ j ∧ (l.drop i.toNat).any (strEq s) = true := by
  intro n
  induction n with
  | zero =>
    intro i h0 h2
    refine .succ ?_
    simp only [slices_Index___string_string_.l0, slices_Index___string_string_.b0]
    rw [List.drop_eq_nil_of_le (by omega)]
    exact .df (by omega) (.pure rfl)
  | succ n ih =>
    intro i h0 h2
    refine .succ ?_
    simp only [slices_Index___string_string_.l0, slices_Index___string_string_.b0]
    refine .dec (fun hi => .dt ⟨h0, hi⟩ ?_) fun hi => .pure (by rw [List.drop_eq_nil_of_le (by omega)]; rfl)
    rw [rdL_drop (Ty.zero .str) l i h0 hi]
    cases hc : strEq s (rdL (Ty.zero .str) l i) with
    | true => exact .pure ⟨h0, by simp [hc]⟩
    | false =>
      refine .cf rfl ?_
      rw [wrap64 (by omega) (by omega)]
      refine (ih (i + 1) (by omega) (by omega)).mono fun r hr => ?_
      cases r with
      | inl _ => simpa [hc] using hr
      | inr j => exact ⟨hr.1, by simpa [hc] using hr.2⟩
theorem contains_is (l : List ByteArray) (s : ByteArray) (hl : l.length ≤ 6000) : Evw (fun k => slices_Contains___string_string_.f k l s) (· = l.any (strEq s)) := by
  unfold slices_Contains___string_string_.f slices_Contains___string_string_.b slices_Index___string_string_.f slices_Index___string_string_.b
  refine .bind (R := fun j => decide (j ≥ (0 : Int)) = l.any (strEq s)) (.bind (sindex_is l s hl l.length 0 (by omega) (by omega)) fun r hr => ?_) fun j hj => .pure hj
  cases r with
  | inl _ => exact .pure (by have hr : l.any (strEq s) = false := hr; rw [hr]; rfl)
  | inr j => exact .pure (by have hr : 0 ≤ j ∧ l.any (strEq s) = true := hr; rw [hr.2]; simpa using hr.1)
def nameB (s : ByteArray) : Bool := !(strEq s (ByteArray.mk #[])) && (decide ((s.size : Int) ≤ 16) && (allTo s s.size 0 && !(gv0).any (strEq s)))
theorem isN_is {s : ByteArray} (hs : s.size ≤ maxLen) : Evw (fun k => lex_IsName.f k s) (· = nameB s) := by
  unfold lex_IsName.f lex_IsName.b nameB lex_word.f lex_word.b
  refine .ret (.andc fun _ => .andc fun _ => .bindv (.ret (word_is s hs s.size 0 (by omega) (by omega) (by omega))) ?_)
  rw [wordTo_all s s.size 0 (by omega) (by omega) (by omega)]
  exact .andc fun _ => .bindv (contains_is _ s (by decide)) (.pure rfl)
theorem empty_is (s : ByteArray) : (!(strEq s (ByteArray.mk #[]))) = decide ((s.size : Int) ≥ 1) := by
  unfold strEq
  rw [ByteArray.toList_eq, ByteArray.toList_eq]
  have : s.size = s.data.toList.length := by simp
  rw [this]
  cases h : s.data.toList with
  | nil => rfl
  | cons _ _ => simp; omega
theorem rname_is {s : ByteArray} (hs : s.size ≤ maxLen) : Evw (fun k => ref13_IsName.f k s) (· = nameB s) := by
  unfold ref13_IsName.f ref13_IsName.b
  refine .bindv (rname_l s hs s.size 0 (by omega) (by omega) (by omega)) ?_
  unfold nameB
  rw [empty_is]
  cases hall : allTo s s.size 0 with
  | false => exact .pure (by simp)
  | true =>
    refine .ret ?_
    refine .andc fun _ => .andc fun _ => ?_
    have e : (true && !(gv0).any (strEq s)) = (!(strEq s (ByteArray.mk #[117, 110, 105, 116])) && (!(strEq s (ByteArray.mk #[115, 111, 117, 114, 99, 101])) && (!(strEq s (ByteArray.mk #[99, 111, 118])) && (!(strEq s (ByteArray.mk #[108, 101, 116])) && (!(strEq s (ByteArray.mk #[111, 117, 116, 112, 117, 116])) && !(strEq s (ByteArray.mk #[105, 110]))))))) := by
      unfold gv0
      simp only [List.any_cons, List.any_nil, Bool.or_false, Bool.not_or, Bool.true_and]
    rw [e]
    exact .andc fun _ => .andc fun _ => .andc fun _ => .andc fun _ => .andc fun _ => .pure rfl
end Go.Proofs.YtlfcdmibknmjeaaDoor.E
