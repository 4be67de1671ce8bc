import Derived.Test.YtcajdkncohcaeaaDoorLxR
namespace Go.Proofs.YtcajdkncohcaeaaDoor
set_option linter.unusedVariables false
set_option linter.unusedSimpArgs false
open Go.RowKit Go.Proofs.YtcajdkncohcaeaaDoorW.PrintWords

/-! ### the reference's way through a text, step by step (no program in sight) -/
/-- tokens from a place on, blanks ahead of it -/
def lexT (f k : Nat) (s : ByteArray) : Except Nat (List Tok) := lexA f (k + skipL false (s.data.toList.drop k)) s
theorem lexT_blank (f k : Nat) (s : ByteArray) (h : k < s.size) (hb : isBlank s[k].toNat = true) : lexT f k s = lexT f (k + 1) s := by
  unfold lexT
  rw [drop_cons s k h, skipL, if_pos hb]; congr 1; omega
/-- within a note -/
def lexN (f k : Nat) (s : ByteArray) : Except Nat (List Tok) := lexA f (k + skipL true (s.data.toList.drop k)) s
theorem lexT_note (f k : Nat) (s : ByteArray) (h : k < s.size) (hb : s[k].toNat = 35) : lexT f k s = lexN f k s ∧ lexN f k s = lexN f (k + 1) s := by
  have e1 : isBlank s[k].toNat = false := by rw [hb]; decide
  have e2 : (s[k].toNat == 35) = true := by simpa using hb
  have e3 : (s[k].toNat == 10) = false := by simp; omega
  unfold lexT lexN
  rw [drop_cons s k h, skipL, e1, e2, skipL, e3]
  constructor
  · rfl
  · congr 1; simp; omega
theorem lexN_on (f k : Nat) (s : ByteArray) (h : k < s.size) (hb : s[k].toNat ≠ 10) : lexN f k s = lexN f (k + 1) s := by
  have e3 : (s[k].toNat == 10) = false := by simpa using hb
  unfold lexN
  rw [drop_cons s k h, skipL, e3]; congr 1; simp; omega
theorem lexN_end (f k : Nat) (s : ByteArray) (h : ∀ h : k < s.size, s[k].toNat = 10) : lexN f k s = lexT f k s := by
  unfold lexN lexT
  by_cases hk : k < s.size
  · have hb := h hk
    have e1 : isBlank s[k].toNat = true := by rw [hb]; decide
    have e3 : (s[k].toNat == 10) = true := by simpa using hb
    rw [drop_cons s k hk]; simp only [skipL, e1, e3, if_true]
  · rw [List.drop_of_length_le (by rw [← Lib.size_eq]; omega)]; rfl
theorem lexT_end (f k : Nat) (s : ByteArray) (h : s.size ≤ k) (hf : 0 < f) : lexT f k s = .ok [] := by
  obtain ⟨g, rfl⟩ : ∃ g, f = g + 1 := ⟨f - 1, by omega⟩
  unfold lexT
  rw [List.drop_of_length_le (by rw [← Lib.size_eq]; omega)]
  unfold lexA
  rw [if_neg (by simp [skipL]; omega)]
/-- a token -/
theorem lexT_tok (f k : Nat) (s : ByteArray) (h : k < s.size) (hb : isBlank s[k].toNat = false) (hn : s[k].toNat ≠ 35) :
    lexT (f + 1) k s = if (tokK (kindOf s[k].toNat) (s.extract k s.size)).2.2 = 0 then .error k
      else consTok ⟨(tokK (kindOf s[k].toNat) (s.extract k s.size)).1, (tokK (kindOf s[k].toNat) (s.extract k s.size)).2.1, k⟩ (lexT f (k + (tokK (kindOf s[k].toNat) (s.extract k s.size)).2.2) s) := by
  have e2 : (s[k].toNat == 35) = false := by simpa using hn
  have ht : tokTk (s.extract k s.size) = tokK (kindOf s[k].toNat) (s.extract k s.size) := by
    unfold tokTk; rw [Lib.extract_to_end, drop_cons s k h]
  unfold lexT
  rw [drop_cons s k h, skipL, hb, e2]
  simp only [Bool.false_eq_true, if_false, Nat.add_zero]
  rw [lexA, if_pos h]
  simp only [ht]
theorem extract_extract0 (s : ByteArray) (k a b : Nat) (h : k + b ≤ s.size) : (s.extract k s.size).extract a b = s.extract (k + a) (k + b) := by
  apply ba_ext
  rw [Lib.extract_data, Lib.extract_to_end, Lib.extract_data, List.drop_drop, show k + b - (k + a) = b - a by omega]

/-- how far brackets' inside goes: up to a ] or a newline -/
def scanU : List UInt8 → Nat
  | [] => 0
  | c :: l => if c.toNat = 93 ∨ c.toNat = 10 then 0 else scanU l + 1
theorem scanU_le : ∀ l : List UInt8, scanU l ≤ l.length
  | [] => Nat.le_refl _
  | c :: l => by unfold scanU; split <;> simp [scanU_le l]
theorem scanU_units : ∀ l : List UInt8,
    (scanU l = l.length ∧ Lib.indexByte l 93 = -1) ∨
    (∃ h : scanU l < l.length, l[scanU l].toNat = 10 ∧ (Lib.indexByte l 93 = -1 ∨ ((scanU l : Int) < Lib.indexByte l 93 ∧ 0 ≤ Lib.indexByte (l.take (Lib.indexByte l 93).toNat) 10))) ∨
    (∃ h : scanU l < l.length, l[scanU l].toNat = 93 ∧ Lib.indexByte l 93 = scanU l ∧ Lib.indexByte (l.take (scanU l)) 10 = -1)
  | [] => by left; exact ⟨rfl, rfl⟩
  | c :: l => by
    have ih := scanU_units l
    have hge := Lib.indexByte_ge l 93
    by_cases h93 : c.toNat = 93
    · right; right
      have hc : c = 93 := UInt8.toNat_inj.1 (by simpa using h93)
      have e : scanU (c :: l) = 0 := by unfold scanU; rw [if_pos (.inl h93)]
      refine ⟨by rw [e]; simp, by simp only [e]; simpa using h93, ?_, ?_⟩
      · rw [e, hc]; simp [Lib.indexByte]
      · rw [e]; rfl
    · have b93 : (c == (93 : UInt8)) = false := by simp; intro h; rw [h] at h93; exact h93 rfl
      by_cases h10 : c.toNat = 10
      · right; left
        have hc : c = 10 := UInt8.toNat_inj.1 (by simpa using h10)
        have e : scanU (c :: l) = 0 := by unfold scanU; rw [if_pos (.inr h10)]
        refine ⟨by rw [e]; simp, by simp only [e]; simpa using h10, ?_⟩
        by_cases hm : Lib.indexByte l 93 = -1
        · left; simp [Lib.indexByte, b93, hm]
        · right
          have e2 : Lib.indexByte (c :: l) 93 = Lib.indexByte l 93 + 1 := by
            have : (Lib.indexByte l 93 == -1) = false := by simpa using hm
            simp [Lib.indexByte, b93, this]
          rw [e, e2, show (Lib.indexByte l 93 + 1).toNat = (Lib.indexByte l 93).toNat + 1 by omega]
          refine ⟨by omega, ?_⟩
          rw [List.take_succ_cons, hc]; simp [Lib.indexByte]
      · have b10 : (c == (10 : UInt8)) = false := by simp; intro h; rw [h] at h10; exact h10 rfl
        have e : scanU (c :: l) = scanU l + 1 := by rw [scanU, if_neg (by simp [h93, h10])]
        have e2 : Lib.indexByte (c :: l) 93 = if Lib.indexByte l 93 = -1 then -1 else Lib.indexByte l 93 + 1 := by
          simp [Lib.indexByte, b93]
        rcases ih with ⟨i1, i2⟩ | ⟨i0, i1, i2⟩ | ⟨i0, i1, i2, i3⟩
        · left
          exact ⟨by rw [e, i1]; rfl, by rw [e2, if_pos i2]⟩
        · right; left
          refine ⟨by rw [e]; simp; omega, by simp only [e, List.getElem_cons_succ]; exact i1, ?_⟩
          rcases i2 with i2 | ⟨i2, i3⟩
          · left; rw [e2, if_pos i2]
          · right
            rw [e2, if_neg (by omega), e, show (Lib.indexByte l 93 + 1).toNat = (Lib.indexByte l 93).toNat + 1 by omega]
            refine ⟨by omega, ?_⟩
            rw [List.take_succ_cons]
            have : (Lib.indexByte (l.take (Lib.indexByte l 93).toNat) 10 == -1) = false := by simp; omega
            simp [Lib.indexByte, b10, this]; omega
        · right; right
          refine ⟨by rw [e]; simp; omega, by simp only [e, List.getElem_cons_succ]; exact i1, ?_, ?_⟩
          · rw [e2, i2, if_neg (by omega), e]; omega
          · rw [e, List.take_succ_cons]; simp [Lib.indexByte, b10, i3]
end Go.Proofs.YtcajdkncohcaeaaDoor
