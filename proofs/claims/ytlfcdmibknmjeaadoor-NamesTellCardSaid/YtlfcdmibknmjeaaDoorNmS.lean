import Derived.Test.YtlfcdmibknmjeaaDoorNmR
import Derived.Lib.IndexAny
namespace Go.Proofs.YtlfcdmibknmjeaaDoor.E
open Go Go.Proofs.YtlfcdmibknmjeaaDoor.Ev
/-! ### NamesTell: tree.text is the reference's Units -/
def okU (c : UInt8) : Bool := !(c == 93) && !(c == 10)
theorem bAt_drop (s : ByteArray) (i : Int) (h0 : 0 ≤ i) (h : i < s.size) : ∃ c : UInt8, s.data.toList.drop i.toNat = c :: s.data.toList.drop (i + 1).toNat ∧ bAt s i = (c.toNat : Int) := by
  have hl : s.data.toList.length = s.size := by simp
  have hi : i.toNat < s.data.toList.length := by omega
  refine ⟨s.data.toList[i.toNat], ?_, ?_⟩
  · rw [show (i + 1).toNat = i.toNat + 1 by omega, List.drop_eq_getElem_cons hi]
  · unfold bAt
    rw [List.getD_eq_getElem?_getD, List.getElem?_eq_getElem hi]
    rfl
theorem byte_eq (c : UInt8) (n : Nat) (hn : n < 256) : (((c.toNat : Nat) : Int) == ((n : Nat) : Int)) = (c == UInt8.ofNat n) := by
  rw [Bool.eq_iff_iff]
  simp only [beq_iff_eq]
  constructor
  · intro h
    have : c.toNat = n := by omega
    rw [← this]
    simp
  · intro h
    rw [h]
    simp
    omega
theorem units_l (s : ByteArray) (hs : s.size ≤ maxLen) : ∀ (n : Nat) (i : Int), 0 ≤ i → (s.size : Int) - i ≤ n → Evw (fun k => ref14_Units.l0 k s i) (· = bif (s.data.toList.drop i.toNat).all okU then Sum.inl s else Sum.inr false) := by
  unfold maxLen at hs
  have hl : s.data.toList.length = s.size := by simp
  intro n
  induction n with
  | zero =>
    intro i h0 h2
    refine .succ ?_
    simp only [ref14_Units.l0, ref14_Units.b0]
    rw [List.drop_eq_nil_of_le (by omega)]
    exact .df (by omega) (.pure rfl)
  | succ n ih =>
    intro i h0 h2
    refine .succ ?_
    simp only [ref14_Units.l0, ref14_Units.b0]
    refine .dec (fun hi => .dt ⟨h0, hi⟩ ?_) fun hi => .pure (by rw [List.drop_eq_nil_of_le (by omega)]; rfl)
    obtain ⟨c, e1, e2⟩ := bAt_drop s i h0 hi
    rw [e1, e2, List.all_cons]
    have k1 : (((c.toNat : Nat) : Int) == (93 : Int)) = (c == 93) := byte_eq c 93 (by omega)
    have k2 : (((c.toNat : Nat) : Int) == (10 : Int)) = (c == 10) := byte_eq c 10 (by omega)
    rw [k1, k2]
    unfold okU
    cases c == 93 with
    | true => exact .pure rfl
    | false =>
      refine .cf rfl (.dt ⟨h0, hi⟩ ?_)
      cases c == 10 with
      | true => exact .pure rfl
      | false =>
        refine .cf rfl ?_
        rw [wrap64 (by omega) (by omega)]
        exact ih _ (by omega) (by omega)
def unitsB (s : ByteArray) : Bool := s.data.toList.all okU && decide ((s.size : Int) ≤ 200)
theorem units_is {s : ByteArray} (hs : s.size ≤ maxLen) : Evw (fun k => ref14_Units.f k s) (· = unitsB s) := by
  unfold ref14_Units.f ref14_Units.b unitsB
  refine .bindv (units_l s hs s.size 0 (by omega) (by omega)) ?_
  rw [Int.toNat_zero, List.drop_zero]
  cases s.data.toList.all okU <;> exact .pure rfl
theorem has_is (s : ByteArray) (c : UInt8) : strings_Contains.f s (ByteArray.mk #[c]) = some (s.data.toList.contains c) := by
  rw [Lib.contains_iff_indexByte]
  rfl
theorem text_is (s : ByteArray) : tree_text.f s = some (unitsB s) := by
  unfold tree_text.f unitsB
  rw [has_is, has_is]
  have e : s.data.toList.all okU = (!s.data.toList.contains 93 && !s.data.toList.contains 10) := by
    rw [Bool.eq_iff_iff]
    unfold okU
    simp only [List.all_eq_true, Bool.and_eq_true, Bool.not_eq_true', beq_eq_false_iff_ne, List.contains_eq_mem, decide_eq_false_iff_not, ne_eq]
    constructor
    · intro h
      exact ⟨fun hm => (h _ hm).1 rfl, fun hm => (h _ hm).2 rfl⟩
    · intro h x hx
      exact ⟨fun e => h.1 (e ▸ hx), fun e => h.2 (e ▸ hx)⟩
  rw [e]
  cases decide ((s.size : Int) ≤ 200) <;> cases s.data.toList.contains 93 <;> cases s.data.toList.contains 10 <;> rfl
end Go.Proofs.YtlfcdmibknmjeaaDoor.E
