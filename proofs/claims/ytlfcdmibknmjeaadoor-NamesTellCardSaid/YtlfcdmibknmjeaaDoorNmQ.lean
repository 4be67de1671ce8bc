import Derived.Test.YtlfcdmibknmjeaaDoorNmP
namespace Go.Proofs.YtlfcdmibknmjeaaDoor.E
open Go Go.Proofs.YtlfcdmibknmjeaaDoor.Ev
/-! ### NamesTell: Find -/
def refP (s : ByteArray) (d : Dcl) : Bool := (d.1 == (2 : Int) || d.1 == (4 : Int)) && strEq d.2.1 s
def firstI (p : Dcl → Bool) : List Dcl → Int → Option Int
  | [], _ => none
  | d :: l, i => bif p d then some i else firstI p l (i + 1)
theorem find_l {t : List Dcl} (s : ByteArray) (ht : t.length ≤ 6000) : ∀ (m : Nat) (i : Int), 0 ≤ i → (t.length : Int) - i ≤ m →
    Evw (fun k => names_Find.l0 k s t t.length i) (· = match firstI (refP s) (t.drop i.toNat) i with | some j => Sum.inr (j, true) | none => Sum.inl ()) := by
  intro m
  induction m with
  | zero =>
    intro i h0 h2
    refine .succ ?_
    simp only [names_Find.l0, names_Find.b0]
    rw [List.drop_eq_nil_of_le (by omega)]
    exact .df (by omega) (.pure rfl)
  | succ m ih =>
    intro i h0 h2
    refine .succ ?_
    simp only [names_Find.l0, names_Find.b0]
    refine .dec (fun hi => .dt ⟨h0, hi⟩ ?_) fun hi => .pure (by rw [List.drop_eq_nil_of_le (by omega)]; rfl)
    rw [rdL_drop (Ty.zero api_Decl) t i h0 hi, firstI]
    refine .bindv (x := (s, (i, (t, (((List.length t : Nat) : Int), (i, refP s (rdL (Ty.zero api_Decl) t i))))))) ?_ ?_
    · generalize rdL (Ty.zero api_Decl) t i = d
      unfold refP
      cases hs : strEq d.2.1 s with
      | false => exact .pure (by simp)
      | true =>
        unfold names_holder.f
        cases h2' : (d.1 == (2 : Int)) with
        | true =>
          have e : @Eq Int d.1 2 := by simpa using h2'
          exact .pure (by rw [e]; rfl)
        | false => cases h4 : (d.1 == (4 : Int)) with
          | true =>
            have e : @Eq Int d.1 4 := by simpa using h4
            exact .pure (by rw [e]; rfl)
          | false => cases h5 : (d.1 == (5 : Int)) with
            | true =>
              have e : @Eq Int d.1 5 := by simpa using h5
              exact .pure (by rw [e]; rfl)
            | false => exact .pure rfl
    · cases refP s (rdL (Ty.zero api_Decl) t i) with
      | true => exact .pure rfl
      | false =>
        show Evw (fun k => names_Find.l0 k s t t.length (IntKind.wrap .i64 (i + 1))) _
        rw [wrap64 (by omega) (by omega)]
        exact ih _ (by omega) (by omega)
def upto (l : List Dcl) (a : Int) : List Dcl := l.take (Int.toNat (mxI 0 (mnI a (((List.length l) : Nat) : Int))))
theorem find_ev {l : List Dcl} (s : ByteArray) (a : Int) (hl : l.length ≤ 6000) : Evw (fun k => names_Find.f k l s a) (· = match firstI (refP s) (upto l a) 0 with | some j => (j, true) | none => ((0 : Int), false)) := by
  unfold names_Find.f names_Find.b
  have hm : 0 ≤ mxI 0 (mnI a (l.length : Int)) ∧ mxI 0 (mnI a (l.length : Int)) ≤ (l.length : Int) := by unfold mxI mnI; split <;> split <;> omega
  refine .dt hm (.bindv (find_l (t := upto l a) s (by unfold upto; rw [List.length_take]; omega) (upto l a).length 0 (by omega) (by omega)) ?_)
  rw [Int.toNat_zero, List.drop_zero]
  cases firstI (refP s) (upto l a) 0 <;> exact .pure rfl
theorem rdL_take {α : Type} (z : α) (l : List α) (m : Nat) (i : Int) (h0 : 0 ≤ i) (h : i < (l.take m).length) : rdL z (l.take m) i = rdL z l i := by
  have hl : (l.take m).length = min m l.length := List.length_take
  rw [rdL_get' z (l.take m) i h0 h, rdL_get' z l i h0 (by omega), List.getElem_take]
theorem rfind_l {l : List Dcl} (s : ByteArray) (a : Int) (hl : l.length ≤ 6000) : ∀ (m : Nat) (i : Int), 0 ≤ i → ((upto l a).length : Int) - i ≤ m →
    Evw (fun k => ref17_Find.l0 k l s a i) (· = match firstI (refP s) ((upto l a).drop i.toNat) i with | some j => Sum.inr j | none => Sum.inl ()) := by
  have hlen : ((upto l a).length : Int) = mxI 0 (mnI a (l.length : Int)) := by
    unfold upto
    rw [List.length_take]
    have hm : 0 ≤ mxI 0 (mnI a (l.length : Int)) ∧ mxI 0 (mnI a (l.length : Int)) ≤ (l.length : Int) := by unfold mxI mnI; split <;> split <;> omega
    omega
  have hin : ∀ i : Int, 0 ≤ i → ((i < (l.length : Int) ∧ i < a) ↔ i < ((upto l a).length : Int)) := by
    intro i h0
    rw [hlen]
    unfold mxI mnI
    split <;> split <;> omega
  intro m
  induction m with
  | zero =>
    intro i h0 h2
    refine .succ ?_
    simp only [ref17_Find.l0, ref17_Find.b0]
    have := hin i h0
    rw [List.drop_eq_nil_of_le (by omega)]
    exact .dec (fun h1 => .df (by omega) (.pure rfl)) fun _ => .pure rfl
  | succ m ih =>
    intro i h0 h2
    refine .succ ?_
    simp only [ref17_Find.l0, ref17_Find.b0]
    have hii := hin i h0
    refine .dec (fun h1 => .dec (fun h3 => ?_) fun h3 => .pure (by rw [List.drop_eq_nil_of_le (by omega)]; rfl)) fun h1 => .pure (by rw [List.drop_eq_nil_of_le (by omega)]; rfl)
    have hi := hii.1 ⟨h1, h3⟩
    rw [rdL_drop (Ty.zero api_Decl) (upto l a) i h0 hi, firstI, show rdL (Ty.zero api_Decl) (upto l a) i = rdL (Ty.zero api_Decl) l i from rdL_take _ _ _ i h0 hi]
    refine .bindv (x := (s, (l, (s, (a, (i, refP s (rdL (Ty.zero api_Decl) l i))))))  |>.2) ?_ ?_
    · refine .dt ⟨h0, h1⟩ (.cond (fun e => .dt ⟨h0, h1⟩ (.pure (by unfold refP; rw [e]; rfl))) fun e => .dt ⟨h0, h1⟩ (.cond (fun e' => .dt ⟨h0, h1⟩ (.pure (by unfold refP; rw [e, e']; rfl))) fun e' => .pure (by unfold refP; rw [e, e']; rfl)))
    · cases refP s (rdL (Ty.zero api_Decl) l i) with
      | true => exact .pure rfl
      | false =>
        show Evw (fun k => ref17_Find.l0 k l s a (IntKind.wrap .i64 (i + 1))) _
        rw [wrap64 (by omega) (by omega)]
        exact ih _ (by omega) (by omega)
theorem rfind_ev {l : List Dcl} (s : ByteArray) (a : Int) (hl : l.length ≤ 6000) : Evw (fun k => ref17_Find.f k l s a) (· = match firstI (refP s) (upto l a) 0 with | some j => j | none => (-1 : Int)) := by
  unfold ref17_Find.f ref17_Find.b
  refine .bindv (rfind_l s a hl (upto l a).length 0 (by omega) (by omega)) ?_
  rw [Int.toNat_zero, List.drop_zero]
  cases firstI (refP s) (upto l a) 0 <;> exact .pure rfl
theorem firstI_ge (p : Dcl → Bool) : ∀ (l : List Dcl) (i j : Int), firstI p l i = some j → i ≤ j
  | d :: l, i, j, h => by
    rw [firstI] at h
    cases hc : p d with
    | true => rw [hc] at h; cases h; exact Int.le_refl _
    | false => rw [hc] at h; have := firstI_ge p l (i + 1) j h; omega
end Go.Proofs.YtlfcdmibknmjeaaDoor.E
