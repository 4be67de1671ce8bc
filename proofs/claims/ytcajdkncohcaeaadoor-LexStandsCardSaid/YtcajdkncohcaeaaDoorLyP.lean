import Derived.Test.YtcajdkncohcaeaaDoorLxS
import Derived.Test.YtcajdkncohcaeaaDoorLxX
import Derived.Lib.IndexLaws
namespace Go.Proofs.YtcajdkncohcaeaaDoor
set_option linter.unusedVariables false
set_option linter.unusedSimpArgs false
open Go.RowKit Go.Proofs.YtcajdkncohcaeaaDoorW.PrintWords

/-! ### each token stands where it says; a blank, a newline, a note, a newline ahead of a token change places alone (no program in sight) -/
theorem sp_letter : isLetter 32 = false := by decide
theorem sp_digit : isDigit 32 = false := by decide
theorem wordFrom_sp (m : List UInt8) : ∀ (a : List UInt8) (k : Nat), wordFrom k (a ++ 32 :: m) = wordFrom k a
  | [], k => by simp only [List.nil_append, wordFrom]; rw [if_neg]; simp [sp_letter, sp_digit]
  | c :: a, k => by
    simp only [List.cons_append, wordFrom]
    rw [wordFrom_sp m a (k + 1)]
theorem runL_sp (m : List UInt8) : ∀ a : List UInt8, runL (a ++ 32 :: m) = runL a
  | [] => by simp [runL, sp_digit]
  | c :: a => by simp only [List.cons_append, runL]; rw [runL_sp m a]
theorem hasPrefix_sp (m a : List UInt8) (c : UInt8) (hc : c ≠ 32) : Lib.hasPrefix (a ++ 32 :: m) [c] = Lib.hasPrefix a [c] := by
  cases a with
  | nil => simp [Lib.hasPrefix, List.isPrefixOf, hc]
  | cons d a => simp [Lib.hasPrefix, List.isPrefixOf]
theorem drop_sp (a m : List UInt8) (k : Nat) (h : k ≤ a.length) : (a ++ 32 :: m).drop k = a.drop k ++ 32 :: m := List.drop_append_of_le_length h
theorem expL_sp (m a : List UInt8) : expL (a ++ 32 :: m) = expL a := by
  unfold expL
  rw [hasPrefix_sp m a 101 (by decide)]
  split
  · rename_i h1
    have l1 := hasPrefix_ne a _ h1
    simp only []
    rw [drop_sp a m 1 l1, hasPrefix_sp m _ 45 (by decide)]
    split
    · rename_i h2
      have l2 := hasPrefix_ne _ _ h2
      rw [drop_sp _ m 1 l2, runL_sp]
    · rw [runL_sp]
  · rfl
theorem fracL_sp (m a : List UInt8) (n : Nat) (hn : n ≤ a.length) : fracL (a ++ 32 :: m) n = fracL a n := by
  unfold fracL
  rw [drop_sp a m n hn, hasPrefix_sp m _ 46 (by decide)]
  cases h : Lib.hasPrefix (a.drop n) [46] with
  | false => rfl
  | true =>
    have := hasPrefix_one a n 46 h
    rw [drop_sp a m (n + 1) (by omega), runL_sp]
theorem lenL_sp (m a : List UInt8) : lenL (a ++ 32 :: m) = lenL a := by
  unfold lenL
  have h1 := runL_le a
  rw [runL_sp, fracL_sp m a _ h1, drop_sp a m _ (fracL_le a _ h1), expL_sp]
theorem behind_sp (m a : List UInt8) : behindNum (a ++ 32 :: m) = behindNum a := by
  cases a with
  | nil => rfl
  | cons c a => rfl
theorem expL_cut (l : List UInt8) (m : Nat) (h : expL l ≤ m) : expL (l.take m) = expL l := by
  rcases Nat.eq_zero_or_pos m with hm | hm
  · subst hm
    rw [List.take_zero]
    have : expL [] = 0 := rfl
    omega
  · by_cases h1 : Lib.hasPrefix l [101] = true
    · have d1 : (l.take m).drop 1 = (l.drop 1).take (m - 1) := by rw [List.drop_take]
      by_cases h2 : Lib.hasPrefix (l.drop 1) [45] = true
      · have e : expL l = if runL ((l.drop 1).drop 1) = 0 then 0 else min (runL ((l.drop 1).drop 1)) 3 + 2 := by rw [expL, if_pos h1]; simp only []; rw [if_pos h2]
        obtain ⟨r, hr⟩ : ∃ r, runL ((l.drop 1).drop 1) = r := ⟨_, rfl⟩
        rw [hr] at e
        rw [e] at h ⊢
        rw [expL, if_pos (by rw [hasPrefix_take _ _ _ hm]; exact h1)]
        simp only []
        rw [d1]
        rcases Nat.eq_zero_or_pos (m - 1) with hm1 | hm1
        · rw [hm1, List.take_zero, if_neg (by rw [hasPrefix_nil]; decide)]
          have : runL [] = 0 := rfl
          rw [this, if_pos rfl]
          by_cases hz : r = 0
          · rw [if_pos hz]
          · rw [if_neg hz] at h; omega
        · rw [if_pos (by rw [hasPrefix_take _ _ _ hm1]; exact h2), List.drop_take, runL_take, hr]
          by_cases hz : r = 0
          · rw [if_pos (by omega), if_pos hz]
          · rw [if_neg hz] at h ⊢
            rw [if_neg (by omega)]; omega
      · have e : expL l = if runL (l.drop 1) = 0 then 0 else min (runL (l.drop 1)) 3 + 1 := by rw [expL, if_pos h1]; simp only []; rw [if_neg h2]
        obtain ⟨r, hr⟩ : ∃ r, runL (l.drop 1) = r := ⟨_, rfl⟩
        rw [hr] at e
        rw [e] at h ⊢
        rw [expL, if_pos (by rw [hasPrefix_take _ _ _ hm]; exact h1)]
        simp only []
        rw [d1]
        rcases Nat.eq_zero_or_pos (m - 1) with hm1 | hm1
        · rw [hm1, List.take_zero, if_neg (by rw [hasPrefix_nil]; decide)]
          have : runL [] = 0 := rfl
          rw [this, if_pos rfl]
          by_cases hz : r = 0
          · rw [if_pos hz]
          · rw [if_neg hz] at h; omega
        · rw [if_neg (by rw [hasPrefix_take _ _ _ hm1]; exact h2), runL_take, hr]
          by_cases hz : r = 0
          · rw [if_pos (by omega), if_pos hz]
          · rw [if_neg hz] at h ⊢
            rw [if_neg (by omega)]; omega
    · rw [expL, if_neg (by rw [hasPrefix_take _ _ _ hm]; exact h1), expL, if_neg h1]
theorem lenL_cut (l : List UInt8) (m : Nat) (h : lenL l ≤ m) : lenL (l.take m) = lenL l := by
  obtain ⟨n, hn⟩ : ∃ n, runL l = n := ⟨_, rfl⟩
  by_cases h0 : n = 0
  · have e : lenL l = 0 := by rw [lenL, hn, if_pos h0]
    rw [e, lenL, runL_take, hn, if_pos (by omega)]
  · obtain ⟨M, hM⟩ : ∃ M, fracL l n = M := ⟨_, rfl⟩
    have hN : lenL l = M + expL (l.drop M) := by rw [lenL, hn, if_neg h0, hM]
    have hnM : n ≤ M := by rw [← hM, fracL]; split <;> omega
    have hr : runL (l.take m) = n := by rw [runL_take, hn]; omega
    have hf : fracL (l.take m) n = M := by
      rw [fracL, List.drop_take, List.drop_take, runL_take]
      rw [fracL] at hM
      cases hp : Lib.hasPrefix (l.drop n) [46] with
      | false =>
        rw [hp] at hM
        simp only [Bool.false_and, Bool.false_eq_true, if_false] at hM
        by_cases hz : m - n = 0
        · rw [hz, List.take_zero, hasPrefix_nil]; simpa using hM
        · rw [hasPrefix_take _ _ _ (by omega), hp]; simpa using hM
      | true =>
        rw [hp] at hM
        obtain ⟨r, hrr⟩ : ∃ r, runL (l.drop (n + 1)) = r := ⟨_, rfl⟩
        rw [hrr] at hM ⊢
        by_cases hr0 : 0 < r
        · simp only [Bool.true_and, decide_eq_true hr0, if_true] at hM
          rw [hasPrefix_take _ _ _ (by omega), hp, show min (m - (n + 1)) r = r by omega]
          simp only [Bool.true_and, decide_eq_true hr0, if_true]; exact hM
        · simp only [Bool.true_and, decide_eq_false hr0, Bool.false_eq_true, if_false] at hM
          rw [decide_eq_false (by omega), Bool.and_false]; exact hM
    rw [lenL, hr, if_neg h0, hf, List.drop_take, expL_cut _ _ (by omega), hN]
theorem wordFrom_ge : ∀ (l : List UInt8) (k : Nat), k ≤ wordFrom k l
  | [], k => Nat.le_refl _
  | c :: l, k => by
    unfold wordFrom; split
    · have := wordFrom_ge l (k + 1); omega
    · exact Nat.le_refl _
theorem wordFrom_cut : ∀ (l : List UInt8) (k m : Nat), wordFrom k l ≤ k + m → wordFrom k (l.take m) = wordFrom k l
  | [], k, m, _ => by simp
  | c :: l, k, 0, h => by
    have := wordFrom_ge (c :: l) k
    rw [List.take_zero, wordFrom]; omega
  | c :: l, k, m + 1, h => by
    rw [List.take_succ_cons]
    by_cases hc : (isLetter c.toNat || (decide (0 < k) && isDigit c.toNat)) = true
    · have e : ∀ l, wordFrom k (c :: l) = wordFrom (k + 1) l := fun l => by rw [wordFrom, if_pos hc]
      rw [e] at h
      rw [e, e, wordFrom_cut l (k + 1) m (by omega)]
    · have e : ∀ l, wordFrom k (c :: l) = k := fun l => by rw [wordFrom, if_neg hc]
      rw [e, e]
theorem indexByte_cut (c : UInt8) (z : List UInt8) : ∀ (l : List UInt8) (m : Nat), 0 ≤ Lib.indexByte l c → Lib.indexByte l c < m → Lib.indexByte (l.take m ++ z) c = Lib.indexByte l c
  | [], m, h, _ => by simp [Lib.indexByte] at h
  | d :: l, 0, h, h2 => by omega
  | d :: l, m + 1, h, h2 => by
    have ih := indexByte_cut c z l m
    simp only [List.take_succ_cons, List.cons_append, Lib.indexByte] at h h2 ⊢
    cases hd : (d == c) with
    | true => rfl
    | false =>
      rw [hd] at h h2
      simp only [Bool.false_eq_true, if_false] at h h2 ⊢
      cases he : (Lib.indexByte l c == -1) with
      | true => rw [he] at h; simp at h
      | false =>
        rw [he] at h h2
        simp only [Bool.false_eq_true, if_false] at h h2
        have hge := Lib.indexByte_ge l c
        have hne : Lib.indexByte l c ≠ -1 := by simpa using he
        rw [ih (by omega) (by omega), he]

/-- v is the first m bytes of s, a blank, and more -/
def cutAt (v s : ByteArray) (m : Nat) (z : List UInt8) : Prop := v.data.toList = s.data.toList.take m ++ 32 :: z
theorem extract_cut {v s : ByteArray} {m : Nat} {z : List UInt8} (h : cutAt v s m z) (hm : m ≤ s.size) (i j : Nat) (hj : j ≤ m) : v.extract i j = s.extract i j := by
  apply ba_ext
  rw [Lib.extract_data, Lib.extract_data, h]
  by_cases hi : i ≤ m
  · have hl : (s.data.toList.take m).length = m := by rw [List.length_take, ← Lib.size_eq]; omega
    rw [List.drop_append_of_le_length (by omega), List.take_append_of_le_length (by rw [List.length_drop]; omega), List.drop_take, List.take_take, show min (j - i) (m - i) = j - i by omega]
  · rw [show j - i = 0 by omega]; simp
theorem wordTk_cut {v s : ByteArray} {m : Nat} {z : List UInt8} (h : cutAt v s m z) (hm : m ≤ s.size) (h0 : (wordTk s).2.2 ≠ 0) (h1 : (wordTk s).2.2 ≤ m) : wordTk v = wordTk s := by
  unfold wordTk at h0 h1 ⊢
  by_cases hb : wordFrom 0 s.data.toList > 16
  · rw [if_pos hb] at h0; exact absurd rfl h0
  · rw [if_neg hb] at h1 ⊢
    replace h1 : wordFrom 0 s.data.toList ≤ m := h1
    rw [h, wordFrom_sp, wordFrom_cut _ _ _ (by omega), if_neg hb, extract_cut h hm _ _ h1]
theorem behind_cut (l : List UInt8) (n m : Nat) (h : behindNum (l.drop n) = false) : behindNum ((l.take m).drop n) = false := by
  rw [List.drop_take]
  cases m - n with
  | zero => rfl
  | succ i =>
    cases hl : l.drop n with
    | nil => rfl
    | cons c t => rw [hl] at h; exact h
theorem numTk_cut {v s : ByteArray} {m : Nat} {z : List UInt8} (h : cutAt v s m z) (hm : m ≤ s.size) (h0 : (numTk s).2.2 ≠ 0) (h1 : (numTk s).2.2 ≤ m) : numTk v = numTk s := by
  unfold numTk at h0 h1 ⊢
  by_cases hb : (decide (400 < lenL s.data.toList) || behindNum (s.data.toList.drop (lenL s.data.toList))) = true
  · rw [if_pos hb] at h0; exact absurd rfl h0
  · rw [if_neg hb] at h1 ⊢
    replace h1 : lenL s.data.toList ≤ m := h1
    have hl : (s.data.toList.take m).length = m := by rw [List.length_take, ← Lib.size_eq]; omega
    have hb2 : behindNum (s.data.toList.drop (lenL s.data.toList)) = false := by
      cases hx : behindNum (s.data.toList.drop (lenL s.data.toList)) with
      | false => rfl
      | true => rw [hx] at hb; simp at hb
    have hb3 : ¬ 400 < lenL s.data.toList := fun hx => hb (by rw [decide_eq_true hx]; rfl)
    rw [h, lenL_sp, lenL_cut _ _ h1, drop_sp _ _ _ (by omega), behind_sp, behind_cut _ _ _ hb2, decide_eq_false hb3, if_neg (by decide), extract_cut h hm _ _ h1]
theorem unitsTk_cut {v s : ByteArray} {m : Nat} {z : List UInt8} (h : cutAt v s m z) (hm : m ≤ s.size) (h0 : (unitsTk s).2.2 ≠ 0) (h1 : (unitsTk s).2.2 ≤ m) : unitsTk v = unitsTk s := by
  unfold unitsTk at h0 h1 ⊢
  simp only [] at h0 h1 ⊢
  split at h0
  · exact absurd rfl h0
  · next hb =>
    rw [if_neg hb] at h1
    replace h1 : (Lib.indexByte s.data.toList 93).toNat + 1 ≤ m := h1
    have he : Lib.indexByte v.data.toList 93 = Lib.indexByte s.data.toList 93 := by
      rw [h]; exact indexByte_cut 93 _ _ _ (by omega) (by omega)
    have hl : (s.data.toList.take m).length = m := by rw [List.length_take, ← Lib.size_eq]; omega
    rw [he, h, List.take_append_of_le_length (by omega), List.take_take, Nat.min_eq_left (by omega), extract_cut h hm _ _ (by omega)]
theorem tokK_cut {v s : ByteArray} {m : Nat} {z : List UInt8} (h : cutAt v s m z) (hm : m ≤ s.size) (k : Int) (h0 : (tokK k s).2.2 ≠ 0) (h1 : (tokK k s).2.2 ≤ m) : tokK k v = tokK k s := by
  unfold tokK at h0 h1 ⊢
  by_cases k2 : k = 2
  · rw [if_pos k2] at h0 h1; rw [if_pos k2, if_pos k2, wordTk_cut h hm h0 h1]
  · rw [if_neg k2] at h0 h1; rw [if_neg k2, if_neg k2]
    by_cases k3 : k = 3
    · rw [if_pos k3] at h0 h1; rw [if_pos k3, if_pos k3, numTk_cut h hm h0 h1]
    · rw [if_neg k3] at h0 h1; rw [if_neg k3, if_neg k3]
      by_cases k6 : k = 6
      · rw [if_pos k6] at h0 h1; rw [if_pos k6, if_pos k6, unitsTk_cut h hm h0 h1]
      · rw [if_neg k6] at h0 h1; rw [if_neg k6, if_neg k6]
        by_cases k4 : k = 4
        · rw [if_pos k4] at h0 h1; rw [if_pos k4, if_pos k4, extract_cut h hm _ _ h1]
        · rw [if_neg k4] at h0; exact absurd rfl h0
theorem tokTk_cut {v s : ByteArray} {m : Nat} {z : List UInt8} (h : cutAt v s m z) (hm : m ≤ s.size) (h0 : (tokTk s).2.2 ≠ 0) (h1 : (tokTk s).2.2 ≤ m) : tokTk v = tokTk s := by
  have hm0 : 0 < m := by omega
  unfold tokTk at h0 h1 ⊢
  cases hs : s.data.toList with
  | nil => rw [hs] at h0; exact absurd rfl h0
  | cons c l =>
    rw [hs] at h0 h1
    obtain ⟨i, rfl⟩ : ∃ i, m = i + 1 := ⟨m - 1, by omega⟩
    have hv : v.data.toList = c :: (l.take i ++ 32 :: z) := by rw [h, hs]; rfl
    rw [hv]
    exact tokK_cut h hm _ h0 h1

/-- a token's bytes as they stand in the text -/
def fullB (x : Tok) : ByteArray := if x.kind = 4 then ⟨#[91]⟩ ++ x.text ++ ⟨#[93]⟩ else x.text
theorem kind6 (c : Nat) (h : kindOf c = 6) : c = 91 := by
  unfold kindOf at h
  repeat' split at h
  all_goals first | (exfalso; revert h; decide) | simp_all
theorem tok_full (s : ByteArray) (p : Int) (h0 : (tokTk s).2.2 ≠ 0) : fullB ⟨(tokTk s).1, (tokTk s).2.1, p⟩ = s.extract 0 (tokTk s).2.2 := by
  revert h0
  unfold tokTk
  cases hs : s.data.toList with
  | nil => intro h; exact absurd rfl h
  | cons c l =>
    simp only []
    unfold tokK
    by_cases k2 : kindOf c.toNat = 2
    · rw [if_pos k2]; unfold wordTk
      by_cases hb : wordFrom 0 s.data.toList > 16
      · rw [if_pos hb]; intro h; exact absurd rfl h
      · rw [if_neg hb]; intro _; rfl
    · rw [if_neg k2]
      by_cases k3 : kindOf c.toNat = 3
      · rw [if_pos k3]; unfold numTk
        by_cases hb : (decide (400 < lenL s.data.toList) || behindNum (s.data.toList.drop (lenL s.data.toList))) = true
        · rw [if_pos hb]; intro h; exact absurd rfl h
        · rw [if_neg hb]; intro _; rfl
      · rw [if_neg k3]
        by_cases k6 : kindOf c.toNat = 6
        · rw [if_pos k6]; unfold unitsTk
          simp only []
          split
          · intro h; exact absurd rfl h
          · next hb =>
            intro _
            obtain ⟨e, he⟩ : ∃ e : Nat, Lib.indexByte s.data.toList 93 = e := ⟨(Lib.indexByte s.data.toList 93).toNat, by omega⟩
            have h93 := (Lib.indexByte_some he).1
            rw [he] at hb ⊢
            rw [Int.toNat_natCast]
            have hc : c = 91 := UInt8.toNat_inj.1 (by simpa using kind6 _ k6)
            obtain ⟨i, rfl⟩ : ∃ i, e = i + 1 := ⟨e - 1, by omega⟩
            rw [hs, List.getElem?_cons_succ] at h93
            show (if (4 : Int) = 4 then (⟨#[91]⟩ : ByteArray) ++ s.extract 1 (i + 1) ++ ⟨#[93]⟩ else s.extract 1 (i + 1)) = s.extract 0 (i + 1 + 1)
            rw [if_pos rfl]
            apply ba_ext
            rw [ByteArray.data_append, ByteArray.data_append, Array.toList_append, Array.toList_append, Lib.extract_data, Lib.extract_data, hs, hc]
            simp only [List.drop_succ_cons, List.drop_zero, Nat.sub_zero, Nat.add_sub_cancel, List.take_succ_cons]
            rw [List.take_add_one, h93]
            simp
        · rw [if_neg k6]
          by_cases k4 : kindOf c.toNat = 4
          · rw [if_pos k4]; intro _; rfl
          · rw [if_neg k4]; intro h; exact absurd rfl h

/-- tokens stand where they say; between them are blanks and notes alone -/
def stands : Nat → List Tok → ByteArray → Prop
  | a, [], s => a + skipL false (s.data.toList.drop a) = s.size
  | a, x :: L, s => ∃ p n : Nat, a + skipL false (s.data.toList.drop a) = p ∧ x.pos = p ∧ 0 < n ∧ p + n ≤ s.size ∧ fullB x = s.extract p (p + n) ∧ stands (p + n) L s
theorem lexT_step (f a : Nat) (s : ByteArray) (L : List Tok) (h : lexT (f + 1) a s = .ok L) :
    (L = [] ∧ s.size ≤ a + skipL false (s.data.toList.drop a)) ∨
    (∃ p n L', a + skipL false (s.data.toList.drop a) = p ∧ p < s.size ∧ (tokTk (s.extract p s.size)).2.2 = n ∧ n ≠ 0 ∧ p + n ≤ s.size ∧ L = ⟨(tokTk (s.extract p s.size)).1, (tokTk (s.extract p s.size)).2.1, p⟩ :: L' ∧ lexT f (p + n) s = .ok L') := by
  unfold lexT lexA at h
  obtain ⟨p, hp⟩ : ∃ p, a + skipL false (s.data.toList.drop a) = p := ⟨_, rfl⟩
  rw [hp] at h ⊢
  by_cases hps : p < s.size
  · right
    rw [if_pos hps] at h
    simp only [] at h
    have hle := tokTk_le (s.extract p s.size)
    have hsz : (s.extract p s.size).size = s.size - p := by rw [Lib.size_eq, Lib.extract_to_end, List.length_drop, ← Lib.size_eq]
    rw [hsz] at hle
    obtain ⟨n, hn⟩ : ∃ n, (tokTk (s.extract p s.size)).2.2 = n := ⟨_, rfl⟩
    rw [hn] at h hle
    by_cases hz : n = 0
    · rw [if_pos hz] at h; cases h
    · rw [if_neg hz] at h
      refine ⟨p, n, ?_⟩
      revert h
      cases hr : lexA f (p + n + skipL false (s.data.toList.drop (p + n))) s with
      | error e => intro h; cases h
      | ok L' =>
        intro h
        simp only [consTok, Except.ok.injEq] at h
        exact ⟨L', rfl, hps, hn, hz, by omega, h.symm, hr⟩
  · left
    rw [if_neg hps] at h
    simp only [Except.ok.injEq] at h
    exact ⟨h.symm, by omega⟩
theorem stands_lexT (s : ByteArray) : ∀ (f a : Nat) (L : List Tok), a ≤ s.size → s.size - a < f → lexT f a s = .ok L → stands a L s := by
  intro f
  induction f with
  | zero => intro a L _ h; omega
  | succ f ih =>
    intro a L ha hf h
    rcases lexT_step f a s L h with ⟨rfl, hp⟩ | ⟨p, n, L', hp, hps, hn, hz, hpn, rfl, hr⟩
    · have := skipL_le (s.data.toList.drop a) false
      rw [List.length_drop, ← Lib.size_eq] at this
      show a + skipL false (s.data.toList.drop a) = s.size
      omega
    · refine ⟨p, n, hp, rfl, by omega, hpn, ?_, ih (p + n) L' hpn (by omega) hr⟩
      have := tok_full (s.extract p s.size) p (by rw [hn]; exact hz)
      rw [this, hn, extract_extract0 s p 0 n (by omega)]; rfl
theorem stands_pos (s : ByteArray) (x : Tok) (L2 : List Tok) : ∀ (L1 : List Tok) (a : Nat), stands a (L1 ++ x :: L2) s → ∃ c : Nat, x.pos = c ∧ a ≤ c ∧ c < s.size
  | [], a, h => by
    obtain ⟨p, n, h1, h2, h3, h4, h5, _⟩ := h
    exact ⟨p, h2, by omega, by omega⟩
  | y :: L1, a, h => by
    obtain ⟨p, n, h1, h2, h3, h4, h5, h6⟩ := h
    obtain ⟨c, e, h7, h8⟩ := stands_pos s x L2 L1 (p + n) h6
    exact ⟨c, e, by omega, h8⟩
theorem skipL_zero (c : UInt8) (z z' : List UInt8) (h : skipL false (c :: z) = 0) : skipL false (c :: z') = 0 := by
  by_cases h1 : isBlank c.toNat = true
  · rw [skipL, if_pos h1] at h; omega
  · by_cases h2 : (c.toNat == 35) = true
    · rw [skipL, if_neg h1, if_pos h2] at h; omega
    · rw [skipL, if_neg h1, if_neg h2]
theorem skipL_app (c : UInt8) (z : List UInt8) : ∀ (a : List UInt8) (b : Bool), skipL b (a ++ c :: z) = a.length → skipL false (c :: z) = 0 ∧ ∀ y, skipL b (a ++ y) = a.length + skipL false y
  | [], b, h => by
    cases b with
    | false => exact ⟨h, fun y => by simp⟩
    | true =>
      simp only [List.nil_append, List.length_nil] at h
      unfold skipL at h
      split at h <;> omega
  | d :: a, b, h => by
    have h0 := skipL_app c z a false
    have h1 := skipL_app c z a true
    cases b <;> simp only [List.cons_append, skipL, List.length_cons] at h ⊢
    · split at h
      · next hc => obtain ⟨e, hy⟩ := h0 (by omega); exact ⟨e, fun y => by rw [if_pos hc, hy]; omega⟩
      · next hc =>
        split at h
        · next hc2 => obtain ⟨e, hy⟩ := h1 (by omega); exact ⟨e, fun y => by rw [if_neg hc, if_pos hc2, hy]; omega⟩
        · omega
    · split at h
      · next hc => obtain ⟨e, hy⟩ := h0 (by omega); exact ⟨e, fun y => by rw [if_pos hc, hy]; omega⟩
      · next hc => obtain ⟨e, hy⟩ := h1 (by omega); exact ⟨e, fun y => by rw [if_neg hc, hy]; omega⟩

def gapL : List UInt8 := [32, 10, 35, 32, 120, 10]
theorem drop_split (l : List UInt8) (a p : Nat) (h : a ≤ p) : l.drop a = (l.drop a).take (p - a) ++ l.drop p := by
  have := List.take_append_drop (p - a) (l.drop a)
  rw [List.drop_drop, show a + (p - a) = p by omega] at this
  exact this.symm
/-- THE LAW: a blank, a newline, a note and a newline ahead of a token -/
theorem cut_lexT (s u : ByteArray) (cut : Nat) (x : Tok) (L2 : List Tok) (hx : x.pos = cut) (hu : u.data.toList = s.data.toList.take cut ++ (gapL ++ s.data.toList.drop cut)) :
    ∀ (L1 : List Tok) (f a g : Nat), a ≤ s.size → s.size - a < f → lexT f a s = .ok (L1 ++ x :: L2) → s.size + 6 - a < g → lexT g a u = .ok (L1 ++ (x :: L2).map (shiftTok 6)) := by
  intro L1
  induction L1 with
  | nil =>
    intro f a g ha hf h hg
    obtain ⟨f, rfl⟩ : ∃ f', f = f' + 1 := ⟨f - 1, by omega⟩
    have hcs : cut < s.size ∧ a ≤ cut := by
      obtain ⟨c, e, h1, h2⟩ := stands_pos s x L2 [] a (stands_lexT s (f + 1) a _ ha hf h)
      rw [hx] at e; omega
    have hskip : a + skipL false (s.data.toList.drop a) = cut := by
      rcases lexT_step f a s _ h with ⟨h1, _⟩ | ⟨p, n, L', hp, _, _, _, _, hL, _⟩
      · cases h1
      · have e := (List.cons.inj hL).1
        rw [e] at hx
        replace hx : (p : Int) = cut := hx
        omega
    have hlt : (s.data.toList.take cut).length = cut := by rw [List.length_take, ← Lib.size_eq]; omega
    have hul : u.size = s.size + 6 := by
      rw [Lib.size_eq, hu, List.length_append, hlt, List.length_append, List.length_drop, ← Lib.size_eq]; simp only [gapL, List.length_cons, List.length_nil]; omega
    have hda : u.data.toList.drop a = (s.data.toList.drop a).take (cut - a) ++ (gapL ++ s.data.toList.drop cut) := by
      rw [hu, List.drop_append_of_le_length (by omega), List.drop_take]
    have hAl : ((s.data.toList.drop a).take (cut - a)).length = cut - a := by rw [List.length_take, List.length_drop, ← Lib.size_eq]; omega
    have hsd := drop_split s.data.toList a cut hcs.2
    rw [drop_cons s cut hcs.1] at hsd
    obtain ⟨z0, hy⟩ := skipL_app s[cut] _ _ false (by rw [← hsd, hAl]; omega)
    have hgap : skipL false (gapL ++ s.data.toList.drop cut) = 6 := by
      rw [drop_cons s cut hcs.1]
      show skipL false (32 :: 10 :: 35 :: 32 :: 120 :: 10 :: (s[cut] :: s.data.toList.drop (cut + 1))) = 6
      generalize s[cut] :: s.data.toList.drop (cut + 1) = r at z0 ⊢
      simp [skipL, isBlank, z0]
    have hq : (s.extract cut s.size).data.toList = s.data.toList.drop cut := Lib.extract_to_end ..
    have hqs : (s.extract cut s.size).size = s.size - cut := by rw [Lib.size_eq, hq, List.length_drop, ← Lib.size_eq]
    have e1 : lexA (f + 1) cut s = shiftR cut (lexA (f + 1) 0 (s.extract cut s.size)) := by
      have := lexA_shift s (s.extract cut s.size) cut hq.symm (by omega) (f + 1) 0
      rwa [Nat.add_zero] at this
    have e2 : lexA g (cut + 6) u = shiftR (cut + 6) (lexA g 0 (s.extract cut s.size)) := by
      have := lexA_shift u (s.extract cut s.size) (cut + 6) (by rw [hq, hu, ← List.append_assoc, List.drop_append_of_le_length (by rw [List.length_append, hlt]; simp [gapL]), List.drop_of_length_le (by rw [List.length_append, hlt]; simp [gapL])]; rfl) (by omega) g 0
      rwa [Nat.add_zero] at this
    unfold lexT at h ⊢
    rw [hskip, e1] at h
    rw [hda, hy, hAl, hgap, show a + (cut - a + 6) = cut + 6 by omega, e2, lexA_fuel (s.extract cut s.size) g (f + 1) 0 (by omega) (by omega)]
    revert h
    cases lexA (f + 1) 0 (s.extract cut s.size) with
    | error e => intro h; cases h
    | ok M =>
      intro h
      simp only [shiftR, Except.ok.injEq, List.nil_append] at h ⊢
      rw [← h, List.map_map]
      congr 1
      funext t
      simp [shiftTok]; omega
  | cons y L1 ih =>
    intro f a g ha hf h hg
    obtain ⟨f, rfl⟩ : ∃ f', f = f' + 1 := ⟨f - 1, by omega⟩
    obtain ⟨g, rfl⟩ : ∃ g', g = g' + 1 := ⟨g - 1, by omega⟩
    rcases lexT_step f a s _ h with ⟨h1, _⟩ | ⟨p, n, L', hp, hps, hn, hz, hpn, hL, hr⟩
    · cases h1
    · obtain ⟨rfl, rfl⟩ := List.cons.inj hL
      have hcs : cut < s.size ∧ p + n ≤ cut := by
        obtain ⟨c, e, h1, h2⟩ := stands_pos s x L2 L1 (p + n) (stands_lexT s f (p + n) _ hpn (by omega) hr)
        rw [hx] at e; omega
      have ihr := ih f (p + n) g hpn (by omega) hr (by omega)
      have hlt : (s.data.toList.take cut).length = cut := by rw [List.length_take, ← Lib.size_eq]; omega
      have hul : u.size = s.size + 6 := by
        rw [Lib.size_eq, hu, List.length_append, hlt, List.length_append, List.length_drop, ← Lib.size_eq]; simp only [gapL, List.length_cons, List.length_nil]; omega
      have hdp : u.data.toList.drop p = (s.data.toList.drop p).take (cut - p) ++ (gapL ++ s.data.toList.drop cut) := by
        rw [hu, List.drop_append_of_le_length (by omega), List.drop_take]
      have hap : a ≤ p := by omega
      have hda : u.data.toList.drop a = (s.data.toList.drop a).take (p - a) ++ u.data.toList.drop p := by
        have := drop_split (s.data.toList.take cut) a p hap
        rw [List.drop_take, List.drop_take, List.take_take, Nat.min_eq_left (by omega)] at this
        rw [hu, List.drop_append_of_le_length (by omega), List.drop_append_of_le_length (by omega), List.drop_take, List.drop_take, this, List.append_assoc]
      have hAl : ((s.data.toList.drop a).take (p - a)).length = p - a := by rw [List.length_take, List.length_drop, ← Lib.size_eq]; omega
      have hsd := drop_split s.data.toList a p hap
      rw [drop_cons s p hps] at hsd
      obtain ⟨z0, hy⟩ := skipL_app s[p] _ _ false (by rw [← hsd, hAl]; omega)
      have hup : ∃ z, u.data.toList.drop p = s[p] :: z := by
        rw [hdp, drop_cons s p hps, show cut - p = (cut - p - 1) + 1 by omega, List.take_succ_cons]; exact ⟨_, rfl⟩
      obtain ⟨z, hup⟩ := hup
      have htk : tokTk (u.extract p u.size) = tokTk (s.extract p s.size) := by
        refine tokTk_cut (m := cut - p) (z := [10, 35, 32, 120, 10] ++ s.data.toList.drop cut) ?_ ?_ ?_ ?_
        · show (u.extract p u.size).data.toList = (s.extract p s.size).data.toList.take (cut - p) ++ 32 :: ([10, 35, 32, 120, 10] ++ s.data.toList.drop cut)
          rw [Lib.extract_to_end, Lib.extract_to_end, hdp]; rfl
        · rw [Lib.size_eq, Lib.extract_to_end, List.length_drop, ← Lib.size_eq]; omega
        · rw [hn]; exact hz
        · rw [hn]; omega
      unfold lexT
      rw [hda, hy, hAl, hup, skipL_zero _ _ z z0, show a + (p - a + 0) = p by omega]
      unfold lexA
      rw [if_pos (by omega)]
      simp only [htk, hn]
      rw [if_neg hz]
      unfold lexT at ihr
      rw [ihr]; rfl
theorem lexAll_cut (s u : ByteArray) (L : List Tok) (h : lexAll s = .ok L) (k : Nat) (hk : k < L.length) (cut : Nat) (hc : (L.getD k zTok).pos = cut)
    (hu : u.data.toList = s.data.toList.take cut ++ (gapL ++ s.data.toList.drop cut)) (hus : u.size = s.size + 6) : lexAll u = .ok (L.take k ++ (L.drop k).map (shiftTok 6)) := by
  have e : ∀ v : ByteArray, lexAll v = lexT (v.size + 1) 0 v := fun v => by rw [lexT, lexAll, List.drop_zero, Nat.zero_add]
  rw [e] at h ⊢
  have hL : L = L.take k ++ L.getD k zTok :: L.drop (k + 1) := by
    rw [List.getD_eq_getElem?_getD, List.getElem?_eq_getElem hk, Option.getD_some, ← List.drop_eq_getElem_cons hk, List.take_append_drop]
  have hd : L.drop k = L.getD k zTok :: L.drop (k + 1) := by
    rw [List.getD_eq_getElem?_getD, List.getElem?_eq_getElem hk, Option.getD_some, ← List.drop_eq_getElem_cons hk]
  rw [hd]
  exact cut_lexT s u cut _ _ hc hu (L.take k) (s.size + 1) 0 (u.size + 1) (Nat.zero_le _) (by omega) (by rw [← hL]; exact h) (by omega)
theorem stands_all (s : ByteArray) (L : List Tok) (h : lexAll s = .ok L) : stands 0 L s := by
  refine stands_lexT s (s.size + 1) 0 L (Nat.zero_le _) (by omega) ?_
  rw [lexT, List.drop_zero, Nat.zero_add]; exact h
end Go.Proofs.YtcajdkncohcaeaaDoor
