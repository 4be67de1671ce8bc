import Derived.Test.YtcajdkncohcaeaaDoorDmH
namespace Go.Proofs.YtcajdkncohcaeaaDoor
set_option linter.unusedVariables false
set_option linter.unusedSimpArgs false
open Go.RowKit

/-! ### two dimensions have one text just if they are one (no program in sight) -/
theorem dig_toNat (d : Nat) (h : d < 10) : (UInt8.ofNat (48 + d)).toNat = 48 + d := by
  rw [UInt8.toNat_ofNat']; omega
def decVal (l : List UInt8) : Nat := l.foldl (fun acc c => acc * 10 + (c.toNat - 48)) 0
theorem decVal_digits (u : Nat) : decVal (Lib.decDigits u) = u ∧ ∀ c ∈ Lib.decDigits u, 48 ≤ c.toNat ∧ c.toNat ≤ 57 := by
  induction u using Nat.strongRecOn with
  | ind u ih =>
    by_cases h : u < 10
    · rw [Lib.decDigits, dif_pos h]
      refine ⟨?_, fun c hc => ?_⟩
      · simp only [decVal, List.foldl_cons, List.foldl_nil]; rw [dig_toNat u h]; omega
      · rw [List.mem_singleton.1 hc, dig_toNat u h]; omega
    · rw [Lib.decDigits, dif_neg h]
      obtain ⟨i1, i2⟩ := ih (u / 10) (by omega)
      have hm : u % 10 < 10 := Nat.mod_lt _ (by decide)
      refine ⟨?_, fun c hc => ?_⟩
      · unfold decVal at i1 ⊢
        rw [List.foldl_append, i1]
        simp only [List.foldl_cons, List.foldl_nil]; rw [dig_toNat _ hm]; omega
      · rcases List.mem_append.1 hc with hc | hc
        · exact i2 c hc
        · rw [List.mem_singleton.1 hc, dig_toNat _ hm]; omega
theorem decDigits_eq_of (u v : Nat) (h : Lib.decDigits u = Lib.decDigits v) : u = v := by
  rw [← (decVal_digits u).1, ← (decVal_digits v).1, h]
theorem itoa_eq_of (n m : Int) (h : Lib.itoa n = Lib.itoa m) : n = m := by
  unfold Lib.itoa at h
  by_cases hn : n < 0 <;> by_cases hm : m < 0
  · rw [if_pos hn, if_pos hm] at h
    have := decDigits_eq_of _ _ (List.cons.inj h).2
    omega
  · rw [if_pos hn, if_neg hm] at h
    have := (decVal_digits m.toNat).2 45 (by rw [← h]; simp)
    exact absurd this.1 (by decide)
  · rw [if_neg hn, if_pos hm] at h
    have := (decVal_digits n.toNat).2 45 (by rw [h]; simp)
    exact absurd this.1 (by decide)
  · rw [if_neg hn, if_neg hm] at h
    have := decDigits_eq_of _ _ h
    omega
theorem itoa_chars (n : Int) : ∀ c ∈ Lib.itoa n, c ≠ 32 ∧ c ≠ 94 := by
  intro c hc
  have key : ∀ u, c ∈ Lib.decDigits u → c ≠ 32 ∧ c ≠ 94 := fun u h => by
    have := (decVal_digits u).2 c h
    constructor <;> (intro e; subst e; revert this; decide)
  unfold Lib.itoa at hc
  split at hc
  · rcases List.mem_cons.1 hc with rfl | hc
    · decide
    · exact key _ hc
  · exact key _ hc
theorem sep_eq (s : UInt8) : ∀ (xs ys r r' : List UInt8), s ∉ xs → s ∉ ys → xs ++ s :: r = ys ++ s :: r' → xs = ys ∧ r = r'
  | [], [], r, r', _, _, h => ⟨rfl, (List.cons.inj h).2⟩
  | [], y :: ys, r, r', _, h2, h => absurd (List.mem_cons.2 (.inl (List.cons.inj h).1)) h2
  | x :: xs, [], r, r', h1, _, h => absurd (List.mem_cons.2 (.inl (List.cons.inj h).1.symm)) h1
  | x :: xs, y :: ys, r, r', h1, h2, h => by
    obtain ⟨e1, e2⟩ := List.cons.inj h
    obtain ⟨e3, e4⟩ := sep_eq s xs ys r r' (fun hx => h1 (List.mem_cons_of_mem _ hx)) (fun hx => h2 (List.mem_cons_of_mem _ hx)) e2
    exact ⟨by rw [e1, e3], e4⟩
theorem join_two (x y : List UInt8) (l : List (List UInt8)) : Lib.join (x :: y :: l) [32] = x ++ 32 :: Lib.join (y :: l) [32] := by simp [Lib.join, List.intercalate]
theorem join_eq : ∀ l l' : List (List UInt8), (∀ x ∈ l, (32 : UInt8) ∉ x) → (∀ x ∈ l', (32 : UInt8) ∉ x) → l ≠ [] → l' ≠ [] → Lib.join l [32] = Lib.join l' [32] → l = l'
  | [], _, _, _, h, _, _ => absurd rfl h
  | _, [], _, _, _, h, _ => absurd rfl h
  | [x], [y], _, _, _, _, h => by rw [Lib.join_one, Lib.join_one] at h; rw [h]
  | [x], y :: z :: l', h1, _, _, _, h => by
    rw [Lib.join_one, join_two] at h
    exact absurd (by rw [h]; simp) (h1 x (by simp))
  | x :: w :: l, [y], _, h2, _, _, h => by
    rw [Lib.join_one, join_two] at h
    exact absurd (by rw [← h]; simp) (h2 y (by simp))
  | x :: w :: l, y :: z :: l', h1, h2, _, _, h => by
    rw [join_two, join_two] at h
    obtain ⟨e1, e2⟩ := sep_eq 32 _ _ _ _ (h1 x (by simp)) (h2 y (by simp)) h
    have := join_eq (w :: l) (z :: l') (fun v hv => h1 v (List.mem_cons_of_mem _ hv)) (fun v hv => h2 v (List.mem_cons_of_mem _ hv)) (by simp) (by simp) e2
    rw [e1, this]
theorem nm_chars (k : Nat) : ∀ c ∈ (nameB k).data.toList, c ≠ 32 ∧ c ≠ 94 ∧ c ≠ 49 := by
  unfold nameB; split <;> decide
theorem nm_ne (k : Nat) : (nameB k).data.toList ≠ [] := by
  unfold nameB; split <;> decide
theorem nm_eq (i j : Nat) (hi : i < 7) (hj : j < 7) (h : (nameB i).data.toList = (nameB j).data.toList) : i = j := by
  rcases below7 hi with e | e | e | e | e | e | e <;> subst e <;> rcases below7 hj with e | e | e | e | e | e | e <;> subst e <;> first | rfl | (exact absurd h (by decide))
theorem part_data (k : Nat) (n : Int) : (partB k n).data.toList = if n = 1 then (nameB k).data.toList else (nameB k).data.toList ++ 94 :: Lib.itoa n := by
  unfold partB
  split
  · rfl
  · rw [ByteArray.data_append, ByteArray.data_append, Array.toList_append, Array.toList_append]
    simp [itoaB]
theorem part_chars (k : Nat) (n : Int) : (32 : UInt8) ∉ (partB k n).data.toList := by
  rw [part_data]
  intro h
  split at h
  · exact (nm_chars k _ h).1 rfl
  · rcases List.mem_append.1 h with h | h
    · exact (nm_chars k _ h).1 rfl
    · rcases List.mem_cons.1 h with h | h
      · exact absurd h (by decide)
      · exact (itoa_chars n _ h).1 rfl
theorem part_eq (i j : Nat) (hi : i < 7) (hj : j < 7) (n m : Int) (h : partB i n = partB j m) : i = j ∧ n = m := by
  have h2 := congrArg (fun b : ByteArray => b.data.toList) h
  simp only [part_data] at h2
  by_cases hn : n = 1 <;> by_cases hm : m = 1
  · rw [if_pos hn, if_pos hm] at h2; exact ⟨nm_eq i j hi hj h2, by rw [hn, hm]⟩
  · rw [if_pos hn, if_neg hm] at h2
    exact absurd rfl (nm_chars i 94 (by rw [h2]; simp)).2.1
  · rw [if_neg hn, if_pos hm] at h2
    exact absurd rfl (nm_chars j 94 (by rw [← h2]; simp)).2.1
  · rw [if_neg hn, if_neg hm] at h2
    obtain ⟨e1, e2⟩ := sep_eq 94 _ _ _ _ (fun h => (nm_chars i _ h).2.1 rfl) (fun h => (nm_chars j _ h).2.1 rfl) h2
    exact ⟨nm_eq i j hi hj e1, itoa_eq_of n m e2⟩
theorem partsL_mem (a : Nat → Int) : ∀ (l : List Nat) (x : ByteArray), x ∈ partsL a l → ∃ j ∈ l, x = partB j (a j)
  | [], x, h => by simp [partsL] at h
  | i :: l, x, h => by
    unfold partsL at h
    split at h
    · obtain ⟨j, hj, e⟩ := partsL_mem a l x h
      exact ⟨j, List.mem_cons_of_mem _ hj, e⟩
    · rcases List.mem_cons.1 h with h | h
      · exact ⟨i, by simp, h⟩
      · obtain ⟨j, hj, e⟩ := partsL_mem a l x h
        exact ⟨j, List.mem_cons_of_mem _ hj, e⟩
theorem partsL_eq (a b : Nat → Int) : ∀ l : List Nat, l.Nodup → (∀ i ∈ l, i < 7) → partsL a l = partsL b l → ∀ i ∈ l, a i = b i
  | [], _, _, _, i, hi => by simp at hi
  | k :: l, hd, h7, h, i, hi => by
    obtain ⟨hk, hd2⟩ := List.nodup_cons.1 hd
    have hk7 := h7 k (by simp)
    have h72 := fun j hj => h7 j (List.mem_cons_of_mem _ hj)
    have ih := partsL_eq a b l hd2 h72
    have clash : ∀ (c d : Nat → Int) (r : List ByteArray), partsL c l = partB k (d k) :: r → False := fun c d r e => by
      obtain ⟨j, hj, e2⟩ := partsL_mem c l (partB k (d k)) (by rw [e]; simp)
      have := (part_eq k j hk7 (h72 j hj) _ _ e2).1
      subst this; exact hk hj
    unfold partsL at h
    by_cases ha : a k = 0 <;> by_cases hb : b k = 0
    · rw [if_pos ha, if_pos hb] at h
      rcases List.mem_cons.1 hi with rfl | hi
      · rw [ha, hb]
      · exact ih h i hi
    · rw [if_pos ha, if_neg hb] at h; exact (clash a b _ h).elim
    · rw [if_neg ha, if_pos hb] at h; exact (clash b a _ h.symm).elim
    · rw [if_neg ha, if_neg hb] at h
      obtain ⟨e1, e2⟩ := List.cons.inj h
      rcases List.mem_cons.1 hi with rfl | hi
      · exact (part_eq i i hk7 hk7 _ _ e1).2
      · exact ih e2 i hi
theorem partsL_congr (a b : Nat → Int) : ∀ l : List Nat, (∀ i ∈ l, a i = b i) → partsL a l = partsL b l
  | [], _ => rfl
  | k :: l, h => by
    unfold partsL
    rw [h k (by simp), partsL_congr a b l (fun i hi => h i (List.mem_cons_of_mem _ hi))]
theorem text_one (a : Nat → Int) (h : textParts a ≠ []) : (⟨#[49]⟩ : ByteArray) ≠ ⟨(Lib.join ((textParts a).map (·.data.toList)) [32]).toArray⟩ := by
  intro e
  have e2 := congrArg (fun b : ByteArray => b.data.toList) e
  simp only [List.toList_toArray] at e2
  cases hp : textParts a with
  | nil => exact h hp
  | cons x r =>
    obtain ⟨j, _, hx⟩ := partsL_mem a [0, 1, 2, 3, 4, 5, 6] x (by show x ∈ textParts a; rw [hp]; simp)
    rw [hp, List.map_cons, Lib.join_cons] at e2
    have hne : ∃ c t, x.data.toList = c :: t ∧ c ∈ (nameB j).data.toList := by
      rw [hx, part_data]
      cases hn : (nameB j).data.toList with
      | nil => exact absurd hn (nm_ne j)
      | cons c t =>
        split
        · exact ⟨c, t, rfl, by simp⟩
        · exact ⟨c, _, rfl, by simp⟩
    obtain ⟨c, t, ex, hc⟩ := hne
    rw [ex] at e2
    have e3 : (49 : UInt8) = c := (List.cons.inj e2).1
    exact (nm_chars j c hc).2.2 e3.symm
theorem textD_eq (a b : Nat → Int) : textD a = textD b ↔ ∀ j, j < 7 → a j = b j := by
  have hmem : ∀ j, j < 7 → j ∈ ([0, 1, 2, 3, 4, 5, 6] : List Nat) := fun j hj => by
    rcases below7 hj with e | e | e | e | e | e | e <;> subst e <;> decide
  constructor
  · intro h
    have hp : textParts a = textParts b := by
      unfold textD at h
      by_cases ha : textParts a = [] <;> by_cases hb : textParts b = []
      · rw [ha, hb]
      · rw [if_pos ha, if_neg hb] at h; exact absurd h (text_one b hb)
      · rw [if_neg ha, if_pos hb] at h; exact absurd h.symm (text_one a ha)
      · rw [if_neg ha, if_neg hb] at h
        have e2 := congrArg (fun b : ByteArray => b.data.toList) h
        simp only [List.toList_toArray] at e2
        have hw : ∀ c : Nat → Int, ∀ x ∈ (textParts c).map (·.data.toList), (32 : UInt8) ∉ x := by
          intro c x hx
          obtain ⟨y, hy, rfl⟩ := List.mem_map.1 hx
          obtain ⟨j, _, rfl⟩ := partsL_mem c _ y hy
          exact part_chars _ _
        have := join_eq _ _ (hw a) (hw b) (by simpa using ha) (by simpa using hb) e2
        exact (List.map_inj_right (fun x y hxy => ByteArray.ext (Array.toList_inj.1 hxy))).1 this
    intro j hj
    exact partsL_eq a b _ (by decide) (by decide) hp j (hmem j hj)
  · intro h
    have : textParts a = textParts b := partsL_congr a b _ (fun i hi => h i (by
      revert i; decide))
    unfold textD; rw [this]
/-- the law -/
theorem text_law (a b : Nat → Int) : (((textD a).toList == (textD b).toList) == eqD a b) = true := by
  have h : ((textD a).toList == (textD b).toList) = eqD a b := by
    rw [Bool.eq_iff_iff, eqD_iff, beq_iff_eq, ← textD_eq, Lib.toList_data, Lib.toList_data]
    constructor
    · intro h; exact ByteArray.ext (Array.toList_inj.1 h)
    · intro h; rw [h]
  rw [h]; simp
end Go.Proofs.YtcajdkncohcaeaaDoor
