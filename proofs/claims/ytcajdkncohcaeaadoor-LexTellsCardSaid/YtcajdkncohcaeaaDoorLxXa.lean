import Derived.Test.YtcajdkncohcaeaaDoorLxX
namespace Go.Proofs.YtcajdkncohcaeaaDoor
set_option linter.unusedVariables false
set_option linter.unusedSimpArgs false
open Go.RowKit

/-! ### brackets' inside: how far the reference goes, and what the program's token is (no program in sight) -/
theorem scanU_not : ∀ (l : List UInt8) (i : Nat) (h : i < l.length), i < scanU l → l[i].toNat ≠ 93 ∧ l[i].toNat ≠ 10
  | [], i, h, _ => absurd h (Nat.not_lt_zero i)
  | c :: l, i, h, hi => by
    unfold scanU at hi
    split at hi
    · omega
    · next hc =>
      cases i with
      | zero => exact ⟨fun e => hc (.inl e), fun e => hc (.inr e)⟩
      | succ i => exact scanU_not l i (by simpa using h) (by omega)
theorem drop_at (s : ByteArray) (k i : Nat) (h : k + i < s.size) (h' : i < (s.data.toList.drop k).length) : (s.data.toList.drop k)[i] = s[k + i] := by
  rw [List.getElem_drop]; rfl
theorem kindOf_other (c : Nat) (h1 : c ≠ 32) (h2 : c ≠ 9) (h3 : c ≠ 10) (hl : isLetter c = false) (hd : isDigit c = false)
    (hs : ¬ (c = 40 ∨ c = 41 ∨ c = 43 ∨ c = 45 ∨ c = 42 ∨ c = 47 ∨ c = 94 ∨ c = 61 ∨ c = 59 ∨ c = 58)) (h35 : c ≠ 35) (h91 : c ≠ 91) : kindOf c = 0 := by
  simp only [not_or] at hs
  obtain ⟨s1, s2, s3, s4, s5, s6, s7, s8, s9, s10⟩ := hs
  unfold kindOf
  rw [hl, hd]
  simp [h1, h2, h3, s1, s2, s3, s4, s5, s6, s7, s8, s9, s10, h35, h91]
theorem units_scan (s : ByteArray) (k : Nat) (hk : k < s.size) (h91 : s[k].toNat = 91) :
    ∃ p, k + 1 ≤ p ∧ p ≤ s.size ∧ (∀ i (h : i < s.size), k ≤ i → i < p → s[i].toNat ≠ 93 ∧ s[i].toNat ≠ 10) ∧
      ((p = s.size ∧ unitsTk (s.extract k s.size) = noTk) ∨ (∃ h : p < s.size, s[p].toNat = 10 ∧ unitsTk (s.extract k s.size) = noTk) ∨
       (∃ h : p < s.size, s[p].toNat = 93 ∧ unitsTk (s.extract k s.size) = if p < k + 2 ∨ k + 201 < p then noTk else (4, s.extract (k + 1) p, p + 1 - k))) := by
  obtain ⟨l, hl⟩ : ∃ l, s.data.toList.drop k = l := ⟨_, rfl⟩
  have hlen : l.length = s.size - k := by rw [← hl, List.length_drop, ← Lib.size_eq]
  have hle := scanU_le l
  have h1 : 1 ≤ scanU l := by
    rw [← hl, drop_cons s k hk, scanU, if_neg (by rw [h91]; decide)]; omega
  have hat : ∀ i (h : i < s.size) (h0 : k ≤ i) (h' : i - k < l.length), l[i - k] = s[i] := by
    intro i h h0 h'
    subst hl
    rw [drop_at s k (i - k) (by omega) h']
    congr 1; omega
  have hU : (s.extract k s.size).data.toList = l := by rw [Lib.extract_to_end, hl]
  refine ⟨k + scanU l, by omega, by omega, ?_, ?_⟩
  · intro i h h0 hp
    have := scanU_not l (i - k) (by omega) (by omega)
    rw [hat i h h0 (by omega)] at this
    exact this
  · rcases scanU_units l with ⟨i1, i2⟩ | ⟨i0, i1, i2⟩ | ⟨i0, i1, i2, i3⟩
    · left
      refine ⟨by omega, ?_⟩
      simp only [unitsTk, hU, i2]; rw [if_pos (by omega)]
    · right; left
      refine ⟨by omega, ?_, ?_⟩
      · rw [← hat (k + scanU l) (by omega) (by omega) (by omega)]
        rw [← i1]; congr 2; omega
      · simp only [unitsTk, hU]
        rw [if_pos (by rcases i2 with i2 | ⟨_, i2⟩ <;> omega)]
    · right; right
      refine ⟨by omega, ?_, ?_⟩
      · rw [← hat (k + scanU l) (by omega) (by omega) (by omega)]
        rw [← i1]; congr 2; omega
      · simp only [unitsTk, hU, i2, Int.toNat_natCast, i3]
        by_cases hc : k + scanU l < k + 2 ∨ k + 201 < k + scanU l
        · rw [if_pos hc, if_pos (by omega)]
        · rw [if_neg hc, if_neg (by omega), extract_extract0 s k 1 (scanU l) (by omega), show k + scanU l + 1 - k = scanU l + 1 by omega]
end Go.Proofs.YtcajdkncohcaeaaDoor
