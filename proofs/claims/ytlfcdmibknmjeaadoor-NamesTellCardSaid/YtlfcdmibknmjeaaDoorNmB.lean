import Derived.Test.YtlfcdmibknmjeaaDoorNmA
import Derived.Lib.IndexLaws
namespace Go.Proofs.YtlfcdmibknmjeaaDoor.E
open Go Go.Proofs.YtlfcdmibknmjeaaDoor.Ev
/-! ### trees, declarations: each has an answer -/
theorem find_one (s t : ByteArray) (ht : t.size = 1) : ∃ i, internal_stringslite_Index.f s t = some i ∧ (0 ≤ i → i < s.size) := by
  unfold internal_stringslite_Index.f
  rw [show (t.size == 1) = true by simp [ht]]
  refine ⟨_, rfl, fun h => ?_⟩
  obtain ⟨o, ho⟩ := Int.eq_ofNat_of_zero_le h
  obtain ⟨h1, _⟩ := Lib.indexByte_some ho
  have := (List.getElem?_eq_some_iff.1 h1).1
  have e : s.data.toList.length = s.size := by simp
  omega
theorem has_one (s t : ByteArray) (ht : t.size = 1) : ∃ b, strings_Contains.f s t = some b := by
  obtain ⟨i, h, _⟩ := find_one s t ht
  unfold strings_Contains.f strings_Index.f
  rw [h]
  exact ⟨_, rfl⟩
theorem text_tot (s : ByteArray) : ∃ b, tree_text.f s = some b := by
  unfold tree_text.f
  obtain ⟨a, h1⟩ := has_one s (ByteArray.mk #[93]) rfl
  obtain ⟨b, h2⟩ := has_one s (ByteArray.mk #[10]) rfl
  rw [h1, h2]
  cases decide ((s.size : Int) ≤ 200) <;> cases a <;> exact ⟨_, rfl⟩
theorem cut_tot (s t : ByteArray) (ht : t.size = 1) (hs : s.size ≤ maxLen) : ∃ y, strings_Cut.f s t = some y ∧ y.1.size ≤ s.size ∧ y.2.1.size ≤ s.size := by
  obtain ⟨i, h, hi⟩ := find_one s t ht
  unfold maxLen at hs
  unfold strings_Cut.f internal_stringslite_Cut.f
  rw [h, Option.bind_some]
  by_cases h0 : i ≥ 0
  · have := hi h0
    rw [wrap64 (n := i + t.size) (by omega) (by omega)]
    rw [show decide (i ≥ 0) = true by simpa using h0, show decide (0 ≤ i ∧ i ≤ (s.size : Int)) = true by simp; omega, show decide (0 ≤ i + (t.size : Int) ∧ i + (t.size : Int) ≤ s.size) = true by simp; omega]
    exact ⟨_, rfl, by simp; omega, by simp⟩
  · rw [show decide (i ≥ 0) = false by simpa using h0]
    exact ⟨_, rfl, Nat.le_refl _, Nat.zero_le _⟩
theorem isName_tot (s : ByteArray) (hs : s.size ≤ maxLen) : Evw (fun k => lex_IsName.f k s) fun _ => True := by
  unfold lex_IsName.f lex_IsName.b lex_word.f lex_word.b
  refine .bind (R := fun _ => True) ?_ fun _ _ => .pure trivial
  exact .cond (fun _ => .dec (fun _ => .bind (.bind (word_tot s hs s.size 0 (by omega) (by omega) (by omega)) fun _ _ => .pure (Q := fun _ => True) trivial) fun _ _ => .cond (fun _ => .bind (contains_tot gv0 s (by decide)) fun _ _ => .pure trivial) fun _ => .pure trivial) fun _ => .pure trivial) fun _ => .pure trivial
theorem num_tot (s : ByteArray) (hs : s.size ≤ maxLen) : Evw (fun k => write_num.f k s) fun _ => True := by
  unfold write_num.f write_num.b
  obtain ⟨y, hy, h1, h2⟩ := cutPrefix_tot s (ByteArray.mk #[45])
  have hys : y.1.size ≤ maxLen := by
    cases hz2 : y.2 with
    | true => have := h1 hz2; omega
    | false => rw [h2 hz2]; omega
  refine kb hy ?_
  obtain ⟨z, hz, h3, h4⟩ := cut_tot y.1 (ByteArray.mk #[47]) rfl hys
  refine kb hz ?_
  refine .bind (R := fun _ => True) ?_ fun _ _ => .pure trivial
  exact .bind (good_tot _ (by omega)) fun _ _ => .cond (fun _ => .cond (fun _ => .pure trivial) fun _ => .bind (good_tot _ (by omega)) fun _ _ => .pure trivial) fun _ => .pure trivial
/-- what stands in a row of beginnings: each is at or ahead of its place -/
def FromOk (l : List Int) : Prop := l.length ≤ 2000 ∧ ∀ i (h : i < l.length), 0 ≤ l[i] ∧ l[i] ≤ i
theorem FromOk.at {l : List Int} (h : FromOk l) {i : Int} (h0 : 0 ≤ i) (h1 : i < l.length) : 0 ≤ rdL (0 : Int) l i ∧ rdL (0 : Int) l i ≤ i := by
  have hi : i.toNat < l.length := by omega
  have := h.2 i.toNat hi
  have e : rdL (0 : Int) l i = l[i.toNat] := by simp [rdL, List.getD_eq_getElem?_getD, List.getElem?_eq_getElem hi]
  rw [e]
  omega
theorem faced_some (n : api_Node.denote) : ∃ y, tree_faced.f n = some y := ⟨_, rfl⟩
/-- texts that are no longer than a text can be -/
def NodeOk (n : api_Node.denote) : Prop := n.2.2.2.2.1.size ≤ maxLen
theorem begin_tot (n : api_Node.denote) (l : List Int) (hl : FromOk l) (hn : NodeOk n) : Evw (fun k => tree_begin.f k n l) fun r => r.2 = true → (0 : Int) ≤ r.1 ∧ r.1 ≤ (l.length : Int) := by
  have hlen := hl.1
  obtain ⟨A, hA⟩ : ∃ A : Int, A = n.2.1 := ⟨_, rfl⟩
  obtain ⟨B, hB⟩ : ∃ B : Int, B = n.2.2.1 := ⟨_, rfl⟩
  have two : ∀ (p : Nat → Option (Int × Bool)), p = (fun k => (Option.bind (bif (decide ((((List.length l) : Nat) : Int) < (2 : Int))) then (some (n, (l, true))) else (bif (n.2.2.1 != (IntKind.wrap .i64 ((((List.length l) : Nat) : Int) - (1 : Int)))) then (some (n, (l, true))) else (bif (decide (((0 : Int) ≤ n.2.2.1) ∧ (n.2.2.1 < (((List.length l) : Nat) : Int)))) then (bif (n.2.1 != (IntKind.wrap .i64 ((rdL (0 : Int) l n.2.2.1) - (1 : Int)))) then (some (n, (l, true))) else (some (n, (l, (decide (n.2.1 < (0 : Int))))))) else none))) fun y3 => (bif y3.2.2 then (some ((0 : Int), false)) else (bif (decide (((0 : Int) ≤ y3.1.2.1) ∧ (y3.1.2.1 < (((List.length y3.2.1) : Nat) : Int)))) then (Option.bind (tree_faced.f y3.1) fun y4 => (some ((rdL (0 : Int) y3.2.1 y3.1.2.1), (eqv tree_face y4 (y3.1.1, ((0 : Int), ((Ty.zero .str), ((Ty.zero .str), ())))))))) else none)))) →
      Evw p fun r => r.2 = true → (0 : Int) ≤ r.1 ∧ r.1 ≤ (l.length : Int) := by
    intro p hp
    rw [hp]
    refine .bind (R := fun y => y.1 = n ∧ y.2.1 = l ∧ (y.2.2 = false → (0 : Int) ≤ A ∧ A < (l.length : Int))) ?_ fun y hy => ?_
    · rw [← hA, ← hB]
      refine .dec (fun _ => .pure ⟨rfl, rfl, fun h => by cases h⟩) fun h2 => ?_
      rw [wrap64 (by omega) (by omega)]
      refine .cond (fun _ => .pure ⟨rfl, rfl, fun h => by cases h⟩) fun hb => ?_
      have hb : B = (l.length : Int) - 1 := by simpa using hb
      have hf := hl.at (i := B) (by omega) (by omega)
      refine .dt (show (0 : Int) ≤ B ∧ B < (l.length : Int) by omega) ?_
      rw [wrap64 (by omega) (by omega)]
      refine .cond (fun _ => .pure ⟨rfl, rfl, fun h => by cases h⟩) fun ha => .pure ⟨rfl, rfl, fun h => ?_⟩
      have ha : A = rdL (0 : Int) l B - 1 := by simpa using ha
      have h : ¬ A < (0 : Int) := by simpa using h
      omega
    · refine .cond (fun _ => .pure fun h => by cases h) fun hf => ?_
      have hc := hy.2.2 hf
      rw [hy.1, hy.2.1, ← hA]
      obtain ⟨y, hy⟩ := faced_some n
      have hf := hl.at hc.1 hc.2
      refine .dt hc (kb hy <| .pure fun _ => ?_)
      show (0 : Int) ≤ rdL (0 : Int) l A ∧ rdL (0 : Int) l A ≤ (l.length : Int)
      omega
  have one : ∀ (p : Nat → Option (Int × Bool)), p = (fun k => (Option.bind (bif (decide ((((List.length l) : Nat) : Int) < (1 : Int))) then (some (n, (l, true))) else (bif (n.2.1 != (IntKind.wrap .i64 ((((List.length l) : Nat) : Int) - (1 : Int)))) then (some (n, (l, true))) else (some (n, (l, (n.2.2.1 != (0 : Int))))))) fun y3 => (bif y3.2.2 then (some ((0 : Int), false)) else (Option.bind (Option.bind (tree_faced.f y3.1) fun y4 => (bif (eqv tree_face y4 (y3.1.1, (y3.1.2.2.2.1, ((Ty.zero .str), ((Ty.zero .str), ()))))) then (bif (y3.1.1 == (8 : Int)) then (some (y3.1, (y3.2.1, ((mnI y3.1.2.2.2.1 (0 : Int)), true)))) else (some (y3.1, (y3.2.1, ((mnI y3.1.2.2.2.1 (0 : Int)), (y3.1.2.2.2.1 == (0 : Int))))))) else (some (y3.1, (y3.2.1, ((mnI y3.1.2.2.2.1 (0 : Int)), false)))))) fun y4 => (Option.bind (bif (decide (((0 : Int) ≤ y4.1.2.1) ∧ (y4.1.2.1 < (((List.length y4.2.1) : Nat) : Int)))) then (bif y4.2.2.2 then (bif (decide (y4.2.2.1 ≥ (-(64 : Int)))) then (some ((rdL (0 : Int) y4.2.1 y4.1.2.1), (decide (y4.1.2.2.2.1 ≤ (64 : Int))))) else (some ((rdL (0 : Int) y4.2.1 y4.1.2.1), false))) else (some ((rdL (0 : Int) y4.2.1 y4.1.2.1), false))) else none) fun y5 => (some (y5.1, y5.2))))))) →
      Evw p fun r => r.2 = true → (0 : Int) ≤ r.1 ∧ r.1 ≤ (l.length : Int) := by
    intro p hp
    rw [hp]
    refine .bind (R := fun y => y.1 = n ∧ y.2.1 = l ∧ (y.2.2 = false → (0 : Int) ≤ A ∧ A < (l.length : Int))) ?_ fun y hy => ?_
    · rw [← hA]
      refine .dec (fun _ => .pure ⟨rfl, rfl, fun h => by cases h⟩) fun h2 => ?_
      rw [wrap64 (by omega) (by omega)]
      refine .cond (fun _ => .pure ⟨rfl, rfl, fun h => by cases h⟩) fun hb => .pure ⟨rfl, rfl, fun _ => ?_⟩
      have hb : A = (l.length : Int) - 1 := by simpa using hb
      omega
    · refine .cond (fun _ => .pure fun h => by cases h) fun hf => ?_
      have hc := hy.2.2 hf
      rw [hy.1, hy.2.1]
      have hf := hl.at hc.1 hc.2
      obtain ⟨y, hy⟩ := faced_some n
      refine .bind (R := fun z => z.1 = n ∧ z.2.1 = l) (kb hy <| .cond (fun _ => .cond (fun _ => .pure ⟨rfl, rfl⟩) fun _ => .pure ⟨rfl, rfl⟩) fun _ => .pure ⟨rfl, rfl⟩) fun z hz => ?_
      rw [hz.1, hz.2, ← hA]
      refine .bind (R := fun r => (0 : Int) ≤ r.1 ∧ r.1 ≤ (l.length : Int)) (.dt hc ?_) fun r hr => .pure fun _ => hr
      have hr : (0 : Int) ≤ rdL (0 : Int) l A ∧ rdL (0 : Int) l A ≤ (l.length : Int) := by omega
      exact .cond (fun _ => .dec (fun _ => .pure hr) fun _ => .pure hr) fun _ => .pure hr
  have me : (0 : Int) ≤ (l.length : Int) ∧ (l.length : Int) ≤ l.length := by omega
  unfold tree_begin.f tree_begin.b
  refine .cond (fun _ => ?_) fun _ => .cond (fun _ => ?_) fun _ => .cond (fun _ => one _ rfl) fun _ => .cond (fun _ => one _ rfl) fun _ => .cond (fun _ => two _ rfl) fun _ => .cond (fun _ => two _ rfl) fun _ => .cond (fun _ => two _ rfl) fun _ => .cond (fun _ => two _ rfl) fun _ => .pure fun h => by cases h
  · obtain ⟨y, hy⟩ := faced_some n
    refine .bind (R := fun z => z.1 = n ∧ z.2.1 = (l.length : Int)) (kb hy <| .cond (fun _ => .cond (fun _ => .pure ⟨rfl, rfl⟩) fun _ => .pure ⟨rfl, rfl⟩) fun _ => .pure ⟨rfl, rfl⟩) fun z hz => ?_
    rw [hz.1, hz.2]
    refine .bind (R := fun r => (0 : Int) ≤ r.1 ∧ r.1 ≤ (l.length : Int)) ?_ fun r hr => .pure fun _ => hr
    obtain ⟨t, ht⟩ := text_tot n.2.2.2.2.2.1
    exact .cond (fun _ => .bind (good_tot _ hn) fun _ _ => .cond (fun _ => kb ht <| .pure me) fun _ => .pure me) fun _ => .pure me
  · obtain ⟨y, hy⟩ := faced_some n
    refine .bind (R := fun z => z.1 = n ∧ z.2.1 = (l.length : Int)) (kb hy <| .cond (fun _ => .cond (fun _ => .pure ⟨rfl, rfl⟩) fun _ => .pure ⟨rfl, rfl⟩) fun _ => .pure ⟨rfl, rfl⟩) fun z hz => ?_
    rw [hz.1, hz.2]
    exact .cond (fun _ => .bind (isName_tot _ hn) fun _ _ => .pure fun _ => me) fun _ => .pure fun _ => me
end Go.Proofs.YtlfcdmibknmjeaaDoor.E
