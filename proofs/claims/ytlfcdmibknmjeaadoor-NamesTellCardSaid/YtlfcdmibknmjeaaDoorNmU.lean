import Derived.Test.YtlfcdmibknmjeaaDoorNmT
namespace Go.Proofs.YtlfcdmibknmjeaaDoor.E
open Go Go.Proofs.YtlfcdmibknmjeaaDoor.Ev
/-! ### NamesTell: a literal's length, over positions -/
theorem runTo_more (s : ByteArray) : ∀ (n m : Nat) (i : Int), 0 ≤ i → (s.size : Int) - i ≤ n → (s.size : Int) - i ≤ m → runTo s n i = runTo s m i
  | 0, 0, _, _, _, _ => rfl
  | 0, m + 1, i, h0, h, _ => by unfold runTo; rw [show decide (i < (s.size : Int)) = false by simp; omega]; rfl
  | n + 1, 0, i, h0, _, h => by unfold runTo; rw [show decide (i < (s.size : Int)) = false by simp; omega]; rfl
  | n + 1, m + 1, i, h0, h, h' => by
    unfold runTo
    by_cases hi : i < (s.size : Int)
    · rw [runTo_more s n m (i + 1) (by omega) (by omega) (by omega)]
    · rw [show decide (i < (s.size : Int)) = false by simpa using hi]; rfl
/-- the run that begins at a place ends there -/
def runE (s : ByteArray) (i : Int) : Int := runTo s s.size i
theorem ext_at (s : ByteArray) (a : Nat) (i : Int) (h0 : 0 ≤ i) : bAt (s.extract a s.size) i = bAt s (i + a) := by
  unfold bAt
  have e : (s.extract a s.size).data.toList = s.data.toList.drop a := by
    simp only [ByteArray.data_extract, Array.toList_extract, List.extract_eq_take_drop]
    exact List.take_of_length_le (by simp)
  rw [e, List.getD_eq_getElem?_getD, List.getD_eq_getElem?_getD, List.getElem?_drop, show a + i.toNat = (i + a).toNat by omega]
theorem runTo_ext (s : ByteArray) (a : Nat) (ha : a ≤ s.size) : ∀ (n : Nat) (i : Int), 0 ≤ i → runTo (s.extract a s.size) n i = runTo s n (i + a) - a
  | 0, i, _ => by unfold runTo; omega
  | n + 1, i, h0 => by
    have hs : (s.extract a s.size).size = s.size - a := ext_size s a
    unfold runTo
    by_cases hi : i < ((s.extract a s.size).size : Int)
    · rw [ext_at s a i h0, show decide (i < ((s.extract a s.size).size : Int)) = true by simpa using hi, show decide (i + a < (s.size : Int)) = true by simp; omega]
      cases digitB (bAt s (i + a)) with
      | false => show i = i + a - a; omega
      | true =>
        show runTo (s.extract a s.size) n (i + 1) = runTo s n (i + a + 1) - a
        rw [runTo_ext s a ha n (i + 1) (by omega), show i + 1 + (a : Int) = i + a + 1 by omega]
    · rw [show decide (i < ((s.extract a s.size).size : Int)) = false by simpa using hi, show decide (i + a < (s.size : Int)) = false by simp; omega]
      show i = i + a - a
      omega
end Go.Proofs.YtlfcdmibknmjeaaDoor.E
