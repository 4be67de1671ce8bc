import Derived.Test.YtcajdkncohcaeaaDoorLxJ
import Derived.Lib.IndexAny
namespace Go.Proofs.YtcajdkncohcaeaaDoor
set_option linter.unusedVariables false
set_option linter.unusedSimpArgs false
open Go.RowKit Go.Proofs.YtcajdkncohcaeaaDoorW.PrintWords

/-! ### a text, a newline, another text: tokens (no program in sight) -/
theorem nl_letter : isLetter 10 = false := by decide
theorem nl_digit : isDigit 10 = false := by decide
theorem wordFrom_nl (m : List UInt8) : ∀ (a : List UInt8) (k : Nat), wordFrom k (a ++ 10 :: m) = wordFrom k a
  | [], k => by simp only [List.nil_append, wordFrom]; rw [if_neg]; simp [nl_letter, nl_digit]
  | c :: a, k => by
    simp only [List.cons_append, wordFrom]
    rw [wordFrom_nl m a (k + 1)]
theorem runL_nl (m : List UInt8) : ∀ a : List UInt8, runL (a ++ 10 :: m) = runL a
  | [] => by simp [runL, nl_digit]
  | c :: a => by simp only [List.cons_append, runL]; rw [runL_nl m a]
theorem hasPrefix_nl (m a : List UInt8) (c : UInt8) (hc : c ≠ 10) : Lib.hasPrefix (a ++ 10 :: m) [c] = Lib.hasPrefix a [c] := by
  cases a with
  | nil => simp [Lib.hasPrefix, List.isPrefixOf, hc]
  | cons d a => simp [Lib.hasPrefix, List.isPrefixOf]
theorem hasPrefix_ne (a : List UInt8) (c : UInt8) (h : Lib.hasPrefix a [c] = true) : 1 ≤ a.length := by
  cases a with
  | nil => simp [Lib.hasPrefix] at h
  | cons d a => simp
theorem drop_nl (a m : List UInt8) (k : Nat) (h : k ≤ a.length) : (a ++ 10 :: m).drop k = a.drop k ++ 10 :: m := List.drop_append_of_le_length h
theorem expL_nl (m a : List UInt8) : expL (a ++ 10 :: m) = expL a := by
  unfold expL
  rw [hasPrefix_nl m a 101 (by decide)]
  split
  · rename_i h1
    have l1 := hasPrefix_ne a _ h1
    simp only []
    rw [drop_nl a m 1 l1, hasPrefix_nl m _ 45 (by decide)]
    split
    · rename_i h2
      have l2 := hasPrefix_ne _ _ h2
      rw [drop_nl _ m 1 l2, runL_nl]
    · rw [runL_nl]
  · rfl
theorem fracL_nl (m a : List UInt8) (n : Nat) (hn : n ≤ a.length) : fracL (a ++ 10 :: m) n = fracL a n := by
  unfold fracL
  rw [drop_nl a m n hn, hasPrefix_nl m _ 46 (by decide)]
  cases h : Lib.hasPrefix (a.drop n) [46] with
  | false => rfl
  | true =>
    have := hasPrefix_one a n 46 h
    rw [drop_nl a m (n + 1) (by omega), runL_nl]
theorem lenL_nl (m a : List UInt8) : lenL (a ++ 10 :: m) = lenL a := by
  unfold lenL
  have h1 := runL_le a
  rw [runL_nl, fracL_nl m a _ h1, drop_nl a m _ (fracL_le a _ h1), expL_nl]
theorem behind_nl (m a : List UInt8) : behindNum (a ++ 10 :: m) = behindNum a := by
  cases a with
  | nil => rfl
  | cons c a => rfl
theorem indexByte_nl (m : List UInt8) (c : UInt8) (hc : c ≠ 10) : ∀ a : List UInt8,
    (0 ≤ Lib.indexByte a c ∧ Lib.indexByte (a ++ 10 :: m) c = Lib.indexByte a c) ∨ (Lib.indexByte a c = -1 ∧ (Lib.indexByte (a ++ 10 :: m) c = -1 ∨ (a.length : Int) < Lib.indexByte (a ++ 10 :: m) c))
  | [] => by
    right
    refine ⟨rfl, ?_⟩
    have hb : ((10 : UInt8) == c) = false := by simpa using Ne.symm hc
    have := Lib.indexByte_ge m c
    simp only [List.nil_append, Lib.indexByte, hb]
    by_cases h : Lib.indexByte m c = -1
    · left; simp [h]
    · right; simp [h]; omega
  | d :: a => by
    have ih := indexByte_nl m c hc a
    have hge := Lib.indexByte_ge a c
    have hge2 := Lib.indexByte_ge (a ++ 10 :: m) c
    simp only [List.cons_append, Lib.indexByte, List.length_cons]
    cases hd : (d == c) with
    | true => left; simp
    | false =>
      simp only [Bool.false_eq_true, if_false]
      rcases ih with ⟨h1, h2⟩ | ⟨h1, h2 | h2⟩
      · left
        have e1 : (Lib.indexByte a c == -1) = false := by simp; omega
        rw [h2, e1]; simp; omega
      · right; rw [h1, h2]; simp
      · right
        have e1 : (Lib.indexByte (a ++ 10 :: m) c == -1) = false := by simp; omega
        rw [h1, e1]; simp; omega
theorem indexByte_take (m a : List UInt8) (j : Nat) (h : a.length < j) : 0 ≤ Lib.indexByte ((a ++ 10 :: m).take j) 10 := by
  have hc : ((a ++ 10 :: m).take j).contains (10 : UInt8) = true := by
    obtain ⟨k, rfl⟩ : ∃ k, j = a.length + (k + 1) := ⟨j - a.length - 1, by omega⟩
    rw [List.take_length_add_append]; simp
  rw [Lib.contains_iff_indexByte] at hc
  exact of_decide_eq_true hc
theorem skipL_nl (m : List UInt8) : ∀ (a : List UInt8) (b : Bool), skipL b (a ++ 10 :: m) = if skipL b a = a.length then a.length + 1 + skipL false m else skipL b a
  | [], b => by cases b <;> simp [skipL, isBlank] <;> omega
  | c :: a, b => by
    have h0 := skipL_nl m a false
    have h1 := skipL_nl m a true
    have l0 := skipL_le a false
    have l1 := skipL_le a true
    cases b <;> simp only [List.cons_append, skipL, List.length_cons] <;> repeat' split
    all_goals simp_all
    all_goals omega

theorem ba_ext {u a : ByteArray} (h : u.data.toList = a.data.toList) : u = a := by
  apply ByteArray.ext; exact Array.toList_inj.1 h
theorem extract_nl (u a : ByteArray) (m : List UInt8) (h : u.data.toList = a.data.toList ++ 10 :: m) (i j : Nat) (hj : j ≤ a.size) : u.extract i j = a.extract i j := by
  apply ba_ext
  rw [Lib.extract_data, Lib.extract_data, h]
  by_cases hi : i ≤ a.size
  · rw [Lib.size_eq] at hi hj
    rw [List.drop_append_of_le_length hi, List.take_append_of_le_length (by rw [List.length_drop]; omega)]
  · rw [show j - i = 0 by omega]; simp
theorem wordTk_nl (u a : ByteArray) (m : List UInt8) (h : u.data.toList = a.data.toList ++ 10 :: m) : wordTk u = wordTk a := by
  unfold wordTk
  rw [h, wordFrom_nl]
  split
  · rfl
  · have := wordFrom_le a.data.toList 0
    rw [extract_nl u a m h _ _ (by rw [Lib.size_eq]; omega)]
theorem numTk_nl (u a : ByteArray) (m : List UInt8) (h : u.data.toList = a.data.toList ++ 10 :: m) : numTk u = numTk a := by
  unfold numTk
  have hl := lenL_le a.data.toList
  rw [h, lenL_nl, drop_nl _ _ _ hl, behind_nl]
  split
  · rfl
  · rw [extract_nl u a m h _ _ (by rw [Lib.size_eq]; omega)]
theorem unitsTk_nl (u a : ByteArray) (m : List UInt8) (h : u.data.toList = a.data.toList ++ 10 :: m) : unitsTk u = unitsTk a := by
  unfold unitsTk
  simp only [h]
  rcases indexByte_nl m 93 (by decide) a.data.toList with ⟨h1, h2⟩ | ⟨h1, h2⟩
  · rw [h2]
    have hlt := indexByte_lt a.data.toList 93
    have hle : (Lib.indexByte a.data.toList 93).toNat ≤ a.data.toList.length := by
      rcases hlt with hlt | hlt
      · omega
      · rw [hlt]; simp [Lib.indexByte]
    rw [List.take_append_of_le_length hle, extract_nl u a m h _ _ (by rw [Lib.size_eq]; exact hle)]
  · rw [if_pos (by rw [h1]; omega : Lib.indexByte a.data.toList 93 < 2 ∨ _)]
    rw [if_pos]
    rcases h2 with h2 | h2
    · left; omega
    · right; right
      exact indexByte_take m _ _ (by omega)
theorem tokTk_nl (u a : ByteArray) (m : List UInt8) (h : u.data.toList = a.data.toList ++ 10 :: m) (h0 : 0 < a.size) : tokTk u = tokTk a := by
  cases he : a.data.toList with
  | nil => rw [Lib.size_eq, he] at h0; simp at h0
  | cons c l =>
    unfold tokTk
    rw [h, he]
    simp only [List.cons_append]
    unfold tokK
    rw [wordTk_nl u a m h, numTk_nl u a m h, unitsTk_nl u a m h, extract_nl u a m h 0 1 h0]

/-- more rounds than are needed come to the same -/
theorem lexA_fuel (s : ByteArray) : ∀ (f g k : Nat), s.size - k < f → s.size - k < g → lexA f k s = lexA g k s := by
  intro f
  induction f with
  | zero => intro g k h; omega
  | succ f ih =>
    intro g k hf hg
    obtain ⟨g, rfl⟩ : ∃ g', g = g' + 1 := ⟨g - 1, by omega⟩
    unfold lexA
    split
    · simp only []
      split
      · rfl
      · rw [ih g _ (by omega) (by omega)]
    · rfl

def shiftTok (d : Nat) (t : Tok) : Tok := { t with pos := t.pos + d }
def shiftR (d : Nat) : Except Nat (List Tok) → Except Nat (List Tok)
  | .ok l => .ok (l.map (shiftTok d))
  | .error e => .error (e + d)
theorem shiftR_cons (d : Nat) (t : Tok) (r : Except Nat (List Tok)) : shiftR d (consTok t r) = consTok (shiftTok d t) (shiftR d r) := by cases r <;> rfl
/-- tokens behind a place hang on what stands there alone -/
theorem lexA_shift (u t : ByteArray) (d : Nat) (h : u.data.toList.drop d = t.data.toList) (hd : d ≤ u.size) : ∀ (f k : Nat), lexA f (d + k) u = shiftR d (lexA f k t) := by
  have hsz : t.size = u.size - d := by rw [Lib.size_eq t, ← h, List.length_drop, ← Lib.size_eq]
  intro f
  induction f with
  | zero => intro k; rfl
  | succ f ih =>
    intro k
    unfold lexA
    by_cases hk : k < t.size
    · rw [if_pos hk, if_pos (by omega)]
      have he : u.extract (d + k) u.size = t.extract k t.size := by
        apply ba_ext; rw [Lib.extract_to_end, Lib.extract_to_end, ← h, List.drop_drop]
      rw [he]
      simp only []
      split
      · simp [shiftR, Nat.add_comm]
      · rw [shiftR_cons, show d + k + (tokTk (t.extract k t.size)).2.2 = d + (k + (tokTk (t.extract k t.size)).2.2) by omega, ← List.drop_drop, h, Nat.add_assoc d, ih]
        congr 1
        simp [shiftTok, Int.add_comm]
    · rw [if_neg hk, if_neg (by omega)]; rfl

def thenR (r q : Except Nat (List Tok)) : Except Nat (List Tok) := match r with
  | .error e => .error e
  | .ok l => pre l q
theorem thenR_cons (t : Tok) (r q : Except Nat (List Tok)) : thenR (consTok t r) q = consTok t (thenR r q) := by
  cases r with
  | error e => rfl
  | ok l => cases q <;> rfl
/-- THE LAW: a text, a newline, a text -/
theorem lexA_nl (u s t : ByteArray) (h : u.data.toList = s.data.toList ++ 10 :: t.data.toList) : ∀ (f k g : Nat), k < s.size → u.size - k < f → s.size - k < g →
    lexA f k u = thenR (lexA g k s) (shiftR (s.size + 1) (lexAll t)) := by
  have hu : u.size = s.size + 1 + t.size := by rw [Lib.size_eq u, h, List.length_append, List.length_cons, ← Lib.size_eq, ← Lib.size_eq]; omega
  have hdrop : u.data.toList.drop (s.size + 1) = t.data.toList := by
    rw [h, Lib.size_eq, List.drop_append]; simp
  intro f
  induction f with
  | zero => intro k g _ hf; omega
  | succ f ih =>
    intro k g hk hf hg
    obtain ⟨g, rfl⟩ : ∃ g', g = g' + 1 := ⟨g - 1, by omega⟩
    unfold lexA
    rw [if_pos hk, if_pos (by omega)]
    have he : (u.extract k u.size).data.toList = (s.extract k s.size).data.toList ++ 10 :: t.data.toList := by
      rw [Lib.extract_to_end, Lib.extract_to_end, h, List.drop_append_of_le_length (by rw [← Lib.size_eq]; omega)]
    have hpos : 0 < (s.extract k s.size).size := by rw [Lib.size_eq, Lib.extract_to_end, List.length_drop, ← Lib.size_eq]; omega
    have hle := tokTk_le (s.extract k s.size)
    have hsz : (s.extract k s.size).size = s.size - k := by rw [Lib.size_eq, Lib.extract_to_end, List.length_drop, ← Lib.size_eq]
    rw [tokTk_nl _ _ _ he hpos]
    rw [hsz] at hle
    obtain ⟨n, hn⟩ : ∃ n, (tokTk (s.extract k s.size)).2.2 = n := ⟨_, rfl⟩
    simp only [hn]
    rw [hn] at hle
    split
    · rfl
    · rename_i hn0
      rw [thenR_cons]
      congr 1
      rw [h, List.drop_append_of_le_length (by rw [← Lib.size_eq]; omega), skipL_nl]
      have hsl := skipL_le (s.data.toList.drop (k + n)) false
      rw [List.length_drop, ← Lib.size_eq] at hsl ⊢
      by_cases hend : skipL false (s.data.toList.drop (k + n)) = s.size - (k + n)
      · rw [if_pos hend, hend]
        rw [show k + n + (s.size - (k + n)) = s.size by omega]
        obtain ⟨g', rfl⟩ : ∃ g', g = g' + 1 := ⟨g - 1, by omega⟩
        rw [show lexA (g' + 1) s.size s = .ok [] by unfold lexA; rw [if_neg (by omega)]]
        simp only [thenR]
        rw [pre_nil, show k + n + (s.size - (k + n) + 1 + skipL false t.data.toList) = s.size + 1 + skipL false t.data.toList by omega, lexA_shift u t (s.size + 1) hdrop (by omega), lexAll]
        have hst := skipL_le t.data.toList false
        rw [lexA_fuel t f (t.size + 1) _ (by omega) (by omega)]
      · rw [if_neg hend]
        exact ih _ g (by omega) (by omega) (by omega)
theorem lexAll_nl (u s t : ByteArray) (h : u.data.toList = s.data.toList ++ 10 :: t.data.toList) : lexAll u = thenR (lexAll s) (shiftR (s.size + 1) (lexAll t)) := by
  have hu : u.size = s.size + 1 + t.size := by rw [Lib.size_eq u, h, List.length_append, List.length_cons, ← Lib.size_eq, ← Lib.size_eq]; omega
  have hdrop : u.data.toList.drop (s.size + 1) = t.data.toList := by
    rw [h, Lib.size_eq, List.drop_append]; simp
  rw [lexAll, lexAll, h, skipL_nl]
  have hsl := skipL_le s.data.toList false
  have hst := skipL_le t.data.toList false
  rw [← Lib.size_eq] at hsl ⊢
  by_cases hend : skipL false s.data.toList = s.size
  · rw [if_pos hend, hend]
    rw [show lexA (s.size + 1) s.size s = .ok [] by unfold lexA; rw [if_neg (by omega)]]
    simp only [thenR]
    rw [pre_nil, lexA_shift u t (s.size + 1) hdrop (by omega), lexAll, lexA_fuel t (u.size + 1) (t.size + 1) _ (by omega) (by omega)]
  · rw [if_neg hend]
    exact lexA_nl u s t h _ _ _ (by omega) (by omega) (by omega)
end Go.Proofs.YtcajdkncohcaeaaDoor
