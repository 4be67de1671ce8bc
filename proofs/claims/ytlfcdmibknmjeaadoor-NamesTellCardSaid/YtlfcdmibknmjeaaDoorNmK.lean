import Derived.Test.YtlfcdmibknmjeaaDoorNmI
namespace Go.Proofs.YtlfcdmibknmjeaaDoor.E
open Go Go.Proofs.YtlfcdmibknmjeaaDoor.Ev
/-! ### NamesTwice: its parts -/
theorem treeB_len {t : List api_Node.denote} (h : treeB t = true) : t.length ≤ 2000 := by
  by_cases hl : t.length ≤ 2000
  · exact hl
  · exfalso
    have : Evw (fun k => tree_Good.f k t) (· = false) := by
      unfold tree_Good.f tree_Good.b
      exact .df (by omega) (.dt (by omega) (.pure rfl))
    have e : treeB t = false := outOf_eq this
    rw [e] at h
    cases h
theorem good_tree {d : Dcl} (h : goodD d = true) : d.2.2.2.2.2.2.1.length ≤ 2000 := by
  have bare : bareD d = true → d.2.2.2.2.2.2.1.length ≤ 2000 := fun hb => by
    unfold bareD at hb
    have hb : d.2.2.2.2.2.2.1.length = 0 := by simpa using hb
    omega
  unfold goodD at h
  simp only [Bool.and_eq_true] at h
  obtain ⟨_, _, h⟩ := h
  cases h1 : (d.1 == (1 : Int)) with
  | true => rw [h1] at h; simp only [cond_true, Bool.and_eq_true] at h; exact bare h.2.1
  | false => cases h2 : (d.1 == (2 : Int)) with
    | true => rw [h1, h2] at h; simp only [cond_true, cond_false, Bool.and_eq_true] at h; exact bare h.2.1
    | false => cases h3 : (d.1 == (3 : Int)) with
      | true => rw [h1, h2, h3] at h; simp only [cond_true, cond_false, Bool.and_eq_true] at h; exact bare h.2.1
      | false => cases h4 : (d.1 == (4 : Int)) with
        | true => rw [h1, h2, h3, h4] at h; simp only [cond_true, cond_false, Bool.and_eq_true] at h; exact treeB_len h.2
        | false => cases h5 : (d.1 == (5 : Int)) with
          | true => rw [h1, h2, h3, h4, h5] at h; simp only [cond_true, cond_false, Bool.and_eq_true] at h; exact treeB_len h.2.1
          | false => rw [h1, h2, h3, h4, h5] at h; cases h
theorem own_tree {t : List api_Node.denote} (h : t.length ≤ 6000) : keep_OwnTree.f t = some t := by
  unfold keep_OwnTree.f
  rw [show decide (List.length ([] : List api_Node.denote) + t.length ≤ 68719476736) = true by simp; omega]
  rfl
theorem own_l {l : List Dcl} (hl : l.length ≤ 6000) (ht : ∀ d ∈ l, d.2.2.2.2.2.2.1.length ≤ 6000) : ∀ (m : Nat) (i : Int) (acc : List Dcl), 0 ≤ i → acc.length = i → i ≤ l.length → (l.length : Int) - i ≤ m →
    Evw (fun k => keep_OwnScript.l0 k l acc i) (· = acc ++ l.drop i.toNat) := by
  intro m
  induction m with
  | zero =>
    intro i acc h0 h1 h2 h3
    refine .succ ?_
    simp only [keep_OwnScript.l0, keep_OwnScript.b0]
    rw [List.drop_eq_nil_of_le (by omega)]
    exact .df (by omega) (.pure (by simp))
  | succ m ih =>
    intro i acc h0 h1 h2 h3
    refine .succ ?_
    simp only [keep_OwnScript.l0, keep_OwnScript.b0]
    refine .dec (fun hi => .dt ⟨h0, hi⟩ (kb (own_tree (ht _ (rdL_mem _ l i h0 hi))) (.dt (by simp; omega) ?_))) fun hi => .pure (by rw [List.drop_eq_nil_of_le (by omega)]; simp)
    rw [wrap64 (by omega) (by omega), rdL_drop (Ty.zero api_Decl) l i h0 hi]
    have := ih (i + 1) (acc ++ [rdL (Ty.zero api_Decl) l i]) (by omega) (by simp; omega) (by omega) (by omega)
    rw [List.append_assoc] at this
    exact this
theorem own_ev {l : List Dcl} (hl : l.length ≤ 6000) (ht : ∀ d ∈ l, d.2.2.2.2.2.2.1.length ≤ 6000) : Evw (fun k => keep_OwnScript.f k l) (· = l) := by
  unfold keep_OwnScript.f keep_OwnScript.b
  exact .ret (own_l hl ht l.length 0 [] (by omega) rfl (by omega) (by omega))
theorem has_l {l : List Dcl} (s : ByteArray) (hl : l.length ≤ 6000) : ∀ (m : Nat) (i : Int), 0 ≤ i → (l.length : Int) - i ≤ m →
    Evw (fun k => law17_has.l0 k l s i) (· = bif (l.drop i.toNat).any (fun d => (d.1 == (1 : Int)) && strEq d.2.1 s) then Sum.inr true else Sum.inl ()) := by
  intro m
  induction m with
  | zero =>
    intro i h0 h2
    refine .succ ?_
    simp only [law17_has.l0, law17_has.b0]
    rw [List.drop_eq_nil_of_le (by omega)]
    exact .df (by omega) (.pure rfl)
  | succ m ih =>
    intro i h0 h2
    refine .succ ?_
    simp only [law17_has.l0, law17_has.b0]
    refine .dec (fun hi => ?_) fun hi => .pure (by rw [List.drop_eq_nil_of_le (by omega)]; rfl)
    rw [wrap64 (n := i + 1) (by omega) (by omega), rdL_drop (Ty.zero api_Decl) l i h0 hi, List.any_cons]
    have next := ih (i + 1) (by omega) (by omega)
    refine .dt (by omega) ?_
    cases h1 : ((rdL (Ty.zero api_Decl) l i).1 == (1 : Int)) with
    | false => exact next
    | true =>
      refine .ct rfl (.dt (by omega) ?_)
      cases h2 : strEq (rdL (Ty.zero api_Decl) l i).2.1 s with
      | false => exact next
      | true => exact .pure rfl
def hasD (l : List Dcl) (s : ByteArray) : Bool := l.any fun d => (d.1 == (1 : Int)) && strEq d.2.1 s
theorem has_ev {l : List Dcl} (s : ByteArray) (hl : l.length ≤ 6000) : Evw (fun k => law17_has.f k l s) (· = hasD l s) := by
  unfold law17_has.f law17_has.b hasD
  refine .bindv (has_l s hl l.length 0 (by omega) (by omega)) ?_
  rw [Int.toNat_zero, List.drop_zero]
  cases l.any (fun d => (d.1 == (1 : Int)) && strEq d.2.1 s) <;> exact .pure rfl
def dZ : Dcl := ((1 : Int), ((ByteArray.mk #[122, 122, 95, 110, 111, 110, 101]), ((Ty.zero .str), ((ByteArray.mk #[49]), ((Ty.zero .str), ((ByteArray.mk #[109]), (([] : List api_Node.denote), ((0 : Int), ((0 : Int), ())))))))))
theorem dZ_ok : DeclOk dZ := ⟨by decide, by decide, by decide, by decide, fun n hn => (by cases hn), by decide⟩
theorem dZ_good : goodD dZ = true := by
  have h : Evw (fun k => write_Good.f k dZ) (· = true) := .of (K := 60) fun k => by kernel_rfl
  exact h.eq (goodD_ev dZ_ok) |>.symm ▸ rfl
theorem less_no : ∀ {a b : List UInt8}, Op.bytesLess a b = true → Op.bytesLess b a = false ∧ (b == a) = false ∧ (a == b) = false
  | _, [], h => by cases ‹List UInt8› <;> cases h
  | [], _ :: _, _ => ⟨rfl, rfl, rfl⟩
  | a :: x, b :: y, h => by
    unfold Op.bytesLess at h ⊢
    simp only [Bool.or_eq_true, Bool.and_eq_true, decide_eq_true_eq, beq_iff_eq] at h
    rcases h with h | ⟨rfl, h⟩
    · have h1 : ¬ b < a := fun h' => absurd (UInt8.lt_trans h h') (UInt8.lt_irrefl _)
      have h2 : ¬ b = a := fun e => by rw [e] at h; exact UInt8.lt_irrefl _ h
      have h3 : ¬ a = b := fun e => h2 e.symm
      simp [h1, h2, h3]
    · obtain ⟨k1, k2, k3⟩ := less_no h
      simp only [beq_eq_false_iff_ne, ne_eq] at k2 k3
      simp [k1, k2, k3, UInt8.lt_irrefl]
theorem less_tot : ∀ {a b : List UInt8}, Op.bytesLess a b = false → Op.bytesLess b a = false → a = b
  | [], [], _, _ => rfl
  | [], _ :: _, h, _ => by cases h
  | _ :: _, [], _, h => by cases h
  | a :: x, b :: y, h, h' => by
    unfold Op.bytesLess at h h'
    simp only [Bool.or_eq_false_iff, Bool.and_eq_false_iff, decide_eq_false_iff_not, beq_eq_false_iff_ne] at h h'
    have e : a = b := by
      have h1 : ¬ a.toNat < b.toNat := fun k => h.1 (UInt8.lt_iff_toNat_lt.2 k)
      have h2 : ¬ b.toNat < a.toNat := fun k => h'.1 (UInt8.lt_iff_toNat_lt.2 k)
      exact UInt8.toNat_inj.1 (by omega)
    subst e
    rcases h.2 with k | k
    · exact absurd rfl k
    · rcases h'.2 with k' | k'
      · exact absurd rfl k'
      · rw [less_tot k k']
theorem mn_comm (a b : ByteArray) : (mnS a b).toList = (mnS b a).toList := by
  unfold mnS
  cases h1 : Op.bytesLess a.toList b.toList with
  | true => obtain ⟨k1, k2, k3⟩ := less_no h1; simp [k1, k2]
  | false => cases h2 : Op.bytesLess b.toList a.toList with
    | true => obtain ⟨k1, k2, k3⟩ := less_no h2; simp [k2]
    | false => simp [less_tot h1 h2]
theorem mx_comm (a b : ByteArray) : (mxS a b).toList = (mxS b a).toList := by
  unfold mxS
  cases h1 : Op.bytesLess a.toList b.toList with
  | true => obtain ⟨k1, k2, k3⟩ := less_no h1; simp [k1]
  | false => cases h2 : Op.bytesLess b.toList a.toList with
    | true => simp
    | false => simp [less_tot h1 h2]
end Go.Proofs.YtlfcdmibknmjeaaDoor.E
