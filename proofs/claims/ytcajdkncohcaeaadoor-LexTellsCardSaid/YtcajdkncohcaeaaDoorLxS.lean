import Derived.Test.YtcajdkncohcaeaaDoorLxR
import Derived.Test.YtcajdkncohcaeaaDoorLxL
namespace Go.Proofs.YtcajdkncohcaeaaDoor
set_option linter.unusedVariables false
set_option linter.unusedSimpArgs false
open Go.RowKit Go.Proofs.YtcajdkncohcaeaaDoorW.PrintWords

/-! ### each token's text is of its kind (no program in sight) -/
theorem runL_take : ∀ (l : List UInt8) (j : Nat), runL (l.take j) = min j (runL l)
  | [], j => by simp [runL]
  | c :: l, 0 => by simp [runL]
  | c :: l, j + 1 => by
    have ih := runL_take l j
    simp only [List.take_succ_cons, runL]
    split
    · rw [ih]; omega
    · simp
theorem hasPrefix_take (l : List UInt8) (j : Nat) (c : UInt8) (hj : 0 < j) : Lib.hasPrefix (l.take j) [c] = Lib.hasPrefix l [c] := by
  obtain ⟨i, rfl⟩ : ∃ i, j = i + 1 := ⟨j - 1, by omega⟩
  cases l <;> simp [Lib.hasPrefix, List.isPrefixOf]
theorem hasPrefix_nil (c : UInt8) : Lib.hasPrefix [] [c] = false := by simp [Lib.hasPrefix]
theorem expL_take (l : List UInt8) : expL (l.take (expL l)) = expL l := by
  by_cases h1 : Lib.hasPrefix l [101] = true
  · by_cases h2 : Lib.hasPrefix (l.drop 1) [45] = true
    · have e : expL l = if runL ((l.drop 1).drop 1) = 0 then 0 else min (runL ((l.drop 1).drop 1)) 3 + 2 := by rw [expL, if_pos h1]; simp only []; rw [if_pos h2]
      obtain ⟨r, hr⟩ : ∃ r, runL ((l.drop 1).drop 1) = r := ⟨_, rfl⟩
      rw [hr] at e
      by_cases hz : r = 0
      · rw [e, if_pos hz]; rfl
      · rw [if_neg hz] at e
        rw [e, expL, if_pos (by rw [hasPrefix_take _ _ _ (by omega)]; exact h1)]
        simp only []
        have d1 : (l.take (min r 3 + 2)).drop 1 = (l.drop 1).take (min r 3 + 1) := by rw [List.drop_take]; rfl
        have d2 : ((l.drop 1).take (min r 3 + 1)).drop 1 = ((l.drop 1).drop 1).take (min r 3) := by rw [List.drop_take]; rfl
        rw [d1, if_pos (by rw [hasPrefix_take _ _ _ (by omega)]; exact h2), d2, runL_take, hr, if_neg (by omega)]
        omega
    · have e : expL l = if runL (l.drop 1) = 0 then 0 else min (runL (l.drop 1)) 3 + 1 := by rw [expL, if_pos h1]; simp only []; rw [if_neg h2]
      obtain ⟨r, hr⟩ : ∃ r, runL (l.drop 1) = r := ⟨_, rfl⟩
      rw [hr] at e
      by_cases hz : r = 0
      · rw [e, if_pos hz]; rfl
      · rw [if_neg hz] at e
        rw [e, expL, if_pos (by rw [hasPrefix_take _ _ _ (by omega)]; exact h1)]
        simp only []
        have d1 : (l.take (min r 3 + 1)).drop 1 = (l.drop 1).take (min r 3) := by rw [List.drop_take]; rfl
        rw [d1, if_neg (by rw [hasPrefix_take _ _ _ (by omega)]; exact h2), runL_take, hr, if_neg (by omega)]
        omega
  · have e : expL l = 0 := by rw [expL, if_neg h1]
    rw [e]; rfl
theorem lenL_take (l : List UInt8) : lenL (l.take (lenL l)) = lenL l := by
  obtain ⟨n, hn⟩ : ∃ n, runL l = n := ⟨_, rfl⟩
  by_cases h0 : n = 0
  · have : lenL l = 0 := by rw [lenL, hn, if_pos h0]
    rw [this]; rfl
  · obtain ⟨M, hM⟩ : ∃ M, fracL l n = M := ⟨_, rfl⟩
    have hN : lenL l = M + expL (l.drop M) := by rw [lenL, hn, if_neg h0, hM]
    obtain ⟨N, hNN⟩ : ∃ N, lenL l = N := ⟨_, rfl⟩
    rw [hNN] at hN ⊢
    have hnM : n ≤ M := by rw [← hM, fracL]; split <;> omega
    have hr : runL (l.take N) = n := by rw [runL_take, hn]; omega
    have hf : fracL (l.take N) n = M := by
      rw [fracL, List.drop_take, List.drop_take, runL_take]
      rw [fracL] at hM
      cases hp : Lib.hasPrefix (l.drop n) [46] with
      | false =>
        rw [hp] at hM
        simp only [Bool.false_and, Bool.false_eq_true, if_false] at hM
        by_cases hz : N - n = 0
        · rw [hz, List.take_zero, hasPrefix_nil]; simpa using hM
        · rw [hasPrefix_take _ _ _ (by omega), hp]; simpa using hM
      | true =>
        rw [hp] at hM
        obtain ⟨r, hrr⟩ : ∃ r, runL (l.drop (n + 1)) = r := ⟨_, rfl⟩
        rw [hrr] at hM ⊢
        by_cases hr0 : 0 < r
        · simp only [Bool.true_and, decide_eq_true hr0, if_true] at hM
          rw [hasPrefix_take _ _ _ (by omega), hp, show min (N - (n + 1)) r = r by omega]
          simp only [Bool.true_and, decide_eq_true hr0, if_true]; exact hM
        · simp only [Bool.true_and, decide_eq_false hr0, Bool.false_eq_true, if_false] at hM
          have hNn : N = n := by
            rw [hN, ← hM]
            have : expL (l.drop n) = 0 := by
              rw [expL, if_neg]
              intro h
              cases hd : l.drop n with
              | nil => rw [hd] at hp; simp [Lib.hasPrefix] at hp
              | cons c t =>
                rw [hd] at hp h
                simp [Lib.hasPrefix, List.isPrefixOf] at hp h
                rw [← hp] at h; exact absurd h (by decide)
            rw [this]; rfl
          rw [show N - n = 0 by omega, List.take_zero, hasPrefix_nil]; simpa using hM
    rw [lenL, hr, if_neg h0, hf, List.drop_take, show N - M = expL (l.drop M) by omega, expL_take]
    omega

def tokOK (t : Tok) : Prop :=
  (t.kind = 1 ∧ wordB t.text = true) ∨ (t.kind = 2 ∧ goodL t.text = true) ∨ (t.kind = 3 ∧ t.text.size = 1) ∨ (t.kind = 4 ∧ 1 ≤ t.text.size ∧ t.text.size ≤ 200)
theorem wordFrom_take : ∀ (l : List UInt8) (k : Nat), wordFrom k (l.take (wordFrom k l - k)) = wordFrom k l
  | [], k => by simp [wordFrom]
  | c :: l, k => by
    have ih := wordFrom_take l (k + 1)
    have hge : ∀ (l : List UInt8) (k : Nat), k ≤ wordFrom k l := by
      intro l
      induction l with
      | nil => intro k; exact Nat.le_refl _
      | cons c l ih => intro k; unfold wordFrom; split
                       · have := ih (k + 1); omega
                       · exact Nat.le_refl _
    have h1 := hge l (k + 1)
    by_cases h : (isLetter c.toNat || (decide (0 < k) && isDigit c.toNat)) = true
    · have e : wordFrom k (c :: l) = wordFrom (k + 1) l := by rw [wordFrom, if_pos h]
      rw [e, show wordFrom (k + 1) l - k = (wordFrom (k + 1) l - (k + 1)) + 1 by omega, List.take_succ_cons, wordFrom, if_pos h, ih]
    · have e : wordFrom k (c :: l) = k := by rw [wordFrom, if_neg h]
      rw [e, Nat.sub_self]; rfl
theorem tokTk_OK (s : ByteArray) (h : (tokTk s).2.2 ≠ 0) (p : Int) : tokOK ⟨(tokTk s).1, (tokTk s).2.1, p⟩ ∧ (tokTk s).2.1.size ≤ s.size := by
  revert h
  have hl := Lib.size_eq s
  unfold tokTk
  split
  · intro h; simp [noTk] at h
  · rename_i c l he
    have h0 : 0 < s.size := by rw [hl, he]; simp
    unfold tokK
    split
    · unfold wordTk
      split
      · intro h; simp [noTk] at h
      · rename_i h16
        intro h
        have hle := wordFrom_le s.data.toList 0
        refine ⟨.inl ⟨rfl, ?_⟩, by simp only [ByteArray.size_extract]; omega⟩
        replace h : wordFrom 0 s.data.toList ≠ 0 := h
        have hs : (s.extract 0 (wordFrom 0 s.data.toList)).size = wordFrom 0 s.data.toList := by rw [ByteArray.size_extract]; omega
        have ht := wordFrom_take s.data.toList 0
        rw [Nat.sub_zero] at ht
        show wordB (s.extract 0 (wordFrom 0 s.data.toList)) = true
        rw [wordB_eq, empty_size, hs, Lib.extract_data, List.drop_zero, Nat.sub_zero, ht]
        simp only [Bool.and_eq_true, Bool.not_eq_true', decide_eq_false_iff_not, decide_eq_true_eq]
        refine ⟨?_, ?_, ?_⟩ <;> first | trivial | omega
    · split
      · unfold numTk
        split
        · intro h; simp [noTk] at h
        · rename_i hc
          intro h
          replace h : lenL s.data.toList ≠ 0 := h
          have hle := lenL_le s.data.toList
          refine ⟨.inr (.inl ⟨rfl, ?_⟩), by simp only [ByteArray.size_extract]; omega⟩
          have hs : (s.extract 0 (lenL s.data.toList)).size = lenL s.data.toList := by rw [ByteArray.size_extract]; omega
          simp only [Bool.or_eq_true, decide_eq_true_eq, not_or] at hc
          show goodL (s.extract 0 (lenL s.data.toList)) = true
          rw [goodL, empty_size, hs, Lib.extract_data, List.drop_zero, Nat.sub_zero, lenL_take]
          simp only [Bool.and_eq_true, Bool.not_eq_true', decide_eq_false_iff_not, decide_eq_true_eq]
          refine ⟨?_, ?_, ?_⟩ <;> first | trivial | omega
      · split
        · unfold unitsTk
          simp only []
          split
          · intro h; simp [noTk] at h
          · rename_i hc
            intro h
            have hlt := indexByte_lt s.data.toList 93
            have hlt' : Lib.indexByte s.data.toList 93 < s.data.toList.length := by
              rcases hlt with hlt | hlt
              · exact hlt
              · rw [he] at hlt; cases hlt
            have hs : (s.extract 1 (Lib.indexByte s.data.toList 93).toNat).size = (Lib.indexByte s.data.toList 93).toNat - 1 := by rw [ByteArray.size_extract]; omega
            refine ⟨.inr (.inr (.inr ⟨rfl, ?_⟩)), ?_⟩
            · show 1 ≤ (s.extract 1 _).size ∧ _
              rw [hs]; omega
            · show (s.extract 1 _).size ≤ _
              rw [hs]; omega
        · split
          · intro h
            have hs : (s.extract 0 1).size = 1 := by rw [ByteArray.size_extract]; omega
            exact ⟨.inr (.inr (.inl ⟨rfl, hs⟩)), by show (s.extract 0 1).size ≤ _; omega⟩
          · intro h; simp [noTk] at h
theorem lexA_OK (s : ByteArray) : ∀ (f k : Nat) (L : List Tok), lexA f k s = .ok L → ∀ t ∈ L, tokOK t ∧ t.text.size ≤ s.size ∧ 0 ≤ t.pos ∧ t.pos < s.size := by
  intro f
  induction f with
  | zero => intro k L h; simp [lexA] at h; subst h; simp
  | succ f ih =>
    intro k L h
    unfold lexA at h
    split at h
    · rename_i hk
      simp only [] at h
      split at h
      · cases h
      · rename_i hn
        revert h
        cases hr : lexA f _ s with
        | error e => intro h; cases h
        | ok L' =>
          intro h
          simp only [consTok, Except.ok.injEq] at h
          subst h
          intro t ht
          rcases List.mem_cons.1 ht with rfl | ht
          · have := tokTk_OK (s.extract k s.size) hn k
            refine ⟨this.1, Nat.le_trans this.2 ?_, by simp only []; omega, by simp only []; omega⟩
            rw [ByteArray.size_extract]; omega
          · exact ih _ _ hr t ht
    · simp only [Except.ok.injEq] at h; subst h; simp
theorem tokens_OK (s : ByteArray) : ∀ t ∈ (tokensOf s).1, tokOK t ∧ t.text.size ≤ s.size ∧ 0 ≤ t.pos ∧ t.pos < s.size := by
  unfold tokensOf
  split
  · simp
  · cases h : lexAll s with
    | error e => simp [finTok]
    | ok L => exact lexA_OK s _ _ L h
end Go.Proofs.YtcajdkncohcaeaaDoor
