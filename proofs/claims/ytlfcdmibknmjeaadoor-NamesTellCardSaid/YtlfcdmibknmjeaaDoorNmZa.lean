import Derived.Test.YtlfcdmibknmjeaaDoorNmZ
namespace Go.Proofs.YtlfcdmibknmjeaaDoor.E
open Go Go.Proofs.YtlfcdmibknmjeaaDoor.Ev
set_option linter.unusedSimpArgs false
/-! ### NamesTell: both folds are one -/
theorem good_kind {d : Dcl} (h : goodR d = true) : (@Eq Int d.1 1 ∨ @Eq Int d.1 2 ∨ @Eq Int d.1 3 ∨ @Eq Int d.1 4 ∨ @Eq Int d.1 5) ∧ ((@Eq Int d.1 1 ∨ @Eq Int d.1 2 ∨ @Eq Int d.1 3) → d.2.2.2.2.2.2.1 = []) := by
  have bare : bareD d = true → d.2.2.2.2.2.2.1 = [] := fun hb => by
    unfold bareD at hb
    have hb : d.2.2.2.2.2.2.1.length = 0 := by simpa using hb
    exact List.length_eq_zero_iff.1 hb
  unfold goodR at h
  simp only [Bool.and_eq_true] at h
  obtain ⟨_, _, h⟩ := h
  cases h1 : (d.1 == (1 : Int)) with
  | true =>
    have e : @Eq Int d.1 1 := by simpa using h1
    rw [h1] at h; simp only [cond_true, Bool.and_eq_true] at h
    exact ⟨.inl e, fun _ => bare h.2.2.2.1⟩
  | false => cases h2 : (d.1 == (2 : Int)) with
    | true =>
      have e : @Eq Int d.1 2 := by simpa using h2
      rw [h1, h2] at h; simp only [cond_true, cond_false, Bool.and_eq_true] at h
      exact ⟨.inr (.inl e), fun _ => bare h.2.2.1⟩
    | false => cases h3 : (d.1 == (3 : Int)) with
      | true =>
        have e : @Eq Int d.1 3 := by simpa using h3
        rw [h1, h2, h3] at h; simp only [cond_true, cond_false, Bool.and_eq_true] at h
        exact ⟨.inr (.inr (.inl e)), fun _ => bare h.2.2.2.1⟩
      | false =>
        have n1 : ¬ @Eq Int d.1 1 := by simpa using h1
        have n2 : ¬ @Eq Int d.1 2 := by simpa using h2
        have n3 : ¬ @Eq Int d.1 3 := by simpa using h3
        cases h4 : (d.1 == (4 : Int)) with
        | true =>
          have e : @Eq Int d.1 4 := by simpa using h4
          exact ⟨.inr (.inr (.inr (.inl e))), fun hc => by rcases hc with h | h | h <;> contradiction⟩
        | false => cases h5 : (d.1 == (5 : Int)) with
          | true =>
            have e : @Eq Int d.1 5 := by simpa using h5
            exact ⟨.inr (.inr (.inr (.inr e))), fun hc => by rcases hc with h | h | h <;> contradiction⟩
          | false => rw [h1, h2, h3, h4, h5] at h; cases h
theorem kind_b {d : Dcl} {k m : Int} (h : @Eq Int d.1 k) : (d.1 == m) = (k == m) := by rw [h]
theorem strEq_comm (a b : ByteArray) : strEq a b = strEq b a := by
  rw [Bool.eq_iff_iff, strEq_iff, strEq_iff]
  exact ⟨Eq.symm, Eq.symm⟩
theorem strEq_trans {a b c : ByteArray} (h : strEq a b = true) (h' : strEq b c = true) : strEq a c = true := strEq_iff.2 ((strEq_iff.1 h).trans (strEq_iff.1 h'))
theorem lookM_mem {x : ByteArray} : ∀ {l : Names}, (∃ q ∈ l, strEq x q.1 = true ∧ q.2 = lookM .str (.int .i64) x l) ∨ ((∀ q ∈ l, strEq x q.1 = false) ∧ @Eq Int (lookM .str (.int .i64) x l) 0)
  | [] => .inr ⟨fun q hq => (by cases hq), rfl⟩
  | p :: l => by
    unfold lookM
    show (∃ q ∈ p :: l, strEq x q.1 = true ∧ q.2 = _root_.cond (strEq x p.1) p.2 (lookM .str (.int .i64) x l)) ∨ ((∀ q ∈ p :: l, strEq x q.1 = false) ∧ @Eq Int (_root_.cond (strEq x p.1) p.2 (lookM .str (.int .i64) x l)) 0)
    cases hc : strEq x p.1 with
    | true => exact .inl ⟨p, by simp, hc, rfl⟩
    | false =>
      rcases lookM_mem (x := x) (l := l) with ⟨q, h1, h2, h3⟩ | ⟨h1, h2⟩
      · exact .inl ⟨q, List.mem_cons_of_mem _ h1, h2, h3⟩
      · refine .inr ⟨fun q hq => ?_, h2⟩
        rcases List.mem_cons.1 hq with rfl | hq
        · exact hc
        · exact h1 q hq
/-- what stands ahead: of good kinds, names of the one kind of one kind of declaration -/
structure Ahead (p : List Dcl) : Prop where
  kind : ∀ d ∈ p, goodR d = true
  uq : ∀ x ∈ p, ∀ y ∈ p, isV x = true → isV y = true → strEq x.2.1 y.2.1 = true → @Eq Int x.1 y.1
theorem isV_is {d : Dcl} (h : goodR d = true) : isV d = valB d := by
  unfold isV valB
  rcases (good_kind h).1 with h | h | h | h | h <;> simp only [kind_b h] <;> rfl
theorem mem_mOf {p : List Dcl} {q : ByteArray × Int} (h : q ∈ mOf p) : ∃ x ∈ p, isV x = true ∧ q = (x.2.1, x.1) := by
  unfold mOf at h
  obtain ⟨x, h1, h2⟩ := List.mem_map.1 h
  obtain ⟨h3, h4⟩ := List.mem_filter.1 h1
  exact ⟨x, h3, h4, h2.symm⟩
theorem of_mOf {p : List Dcl} {x : Dcl} (h : x ∈ p) (hv : isV x = true) : (x.2.1, x.1) ∈ mOf p := List.mem_map.2 ⟨x, List.mem_filter.2 ⟨h, hv⟩, rfl⟩
theorem hasM_m {p : List Dcl} (h : Ahead p) (s : ByteArray) : hasM .str (.int .i64) s (mOf p) = p.any fun x => strEq x.2.1 s && valB x := by
  rw [Bool.eq_iff_iff, hasM_iff, List.any_eq_true]
  constructor
  · rintro ⟨q, hq, hs⟩
    obtain ⟨x, h1, h2, rfl⟩ := mem_mOf hq
    exact ⟨x, h1, by rw [← isV_is (h.kind x h1), h2, strEq_comm, hs]; rfl⟩
  · rintro ⟨x, h1, h2⟩
    simp only [Bool.and_eq_true] at h2
    exact ⟨_, of_mOf h1 (by rw [isV_is (h.kind x h1)]; exact h2.2), by rw [strEq_comm]; exact h2.1⟩
theorem hasM_u {p : List Dcl} (s : ByteArray) : hasM .str (.int .i64) s (uOf p) = p.any fun x => strEq x.2.1 s && (x.1 == (1 : Int)) := by
  rw [Bool.eq_iff_iff, hasM_iff, List.any_eq_true]
  unfold uOf
  constructor
  · rintro ⟨q, hq, hs⟩
    obtain ⟨x, h1, rfl⟩ := List.mem_map.1 hq
    obtain ⟨h2, h3⟩ := List.mem_filter.1 h1
    simp only [Bool.and_eq_true] at h3
    exact ⟨x, h2, by rw [h3.2, strEq_comm, hs]; rfl⟩
  · rintro ⟨x, h1, h2⟩
    simp only [Bool.and_eq_true] at h2
    have e : @Eq Int x.1 1 := by simpa using h2.2
    exact ⟨_, List.mem_map.2 ⟨x, List.mem_filter.2 ⟨h1, by rw [kind_b e, kind_b e]; rfl⟩, rfl⟩, by rw [strEq_comm]; exact h2.1⟩
theorem refP_is {s : ByteArray} {y : Dcl} (h : refP s y = true) : (@Eq Int y.1 2 ∨ @Eq Int y.1 4) ∧ strEq y.2.1 s = true ∧ isV y = true := by
  unfold refP at h
  simp only [Bool.and_eq_true, Bool.or_eq_true] at h
  have hk : @Eq Int y.1 2 ∨ @Eq Int y.1 4 := by
    rcases h.1 with h | h
    · exact .inl (by simpa using h)
    · exact .inr (by simpa using h)
  refine ⟨hk, h.2, ?_⟩
  unfold isV
  rcases hk with hk | hk <;> rw [kind_b hk, kind_b hk] <;> rfl
/-- what the map tells of a name is what the first one of that name tells -/
theorem look_find {p : List Dcl} (h : Ahead p) (s : ByteArray) : match p.find? (refP s) with
    | some y => @Eq Int (lookM .str (.int .i64) s (mOf p)) y.1 ∧ (@Eq Int y.1 2 ∨ @Eq Int y.1 4)
    | none => ¬ @Eq Int (lookM .str (.int .i64) s (mOf p)) 2 ∧ ¬ @Eq Int (lookM .str (.int .i64) s (mOf p)) 4 := by
  cases hf : p.find? (refP s) with
  | some y =>
    obtain ⟨h1, h2, h3⟩ := refP_is (List.find?_some hf)
    have hy := List.mem_of_find?_eq_some hf
    refine ⟨?_, h1⟩
    rcases lookM_mem (x := s) (l := mOf p) with ⟨q, k1, k2, k3⟩ | ⟨k1, _⟩
    · obtain ⟨x, m1, m2, rfl⟩ := mem_mOf k1
      rw [← k3]
      exact h.uq x m1 y hy m2 h3 (by rw [strEq_comm]; exact strEq_trans h2 k2)
    · have := k1 _ (of_mOf hy h3)
      rw [strEq_comm, show strEq y.2.1 s = true from h2] at this
      cases this
  | none =>
    have hno := List.find?_eq_none.1 hf
    have no : ∀ v : Int, (v = 2 ∨ v = 4) → ¬ @Eq Int (lookM .str (.int .i64) s (mOf p)) v := fun v hv e => by
      obtain ⟨q, k1, k2, k3⟩ := lookM_some (by omega) e
      obtain ⟨x, m1, m2, rfl⟩ := mem_mOf k1
      refine hno x m1 ?_
      unfold refP
      have k3 : @Eq Int x.1 v := k3
      rw [kind_b k3, kind_b k3, strEq_comm, show strEq s x.2.1 = true from k2]
      rcases hv with rfl | rfl <;> rfl
    exact ⟨no 2 (.inl rfl), no 4 (.inr rfl)⟩
theorem src_look {p : List Dcl} (h : Ahead p) (s : ByteArray) : srcB p s = (lookM .str (.int .i64) s (mOf p) == (2 : Int)) := by
  have := look_find h s
  unfold srcB
  cases hf : p.find? (refP s) with
  | some y => rw [hf] at this; rw [show lookM .str (.int .i64) s (mOf p) = y.1 from this.1]
  | none => rw [hf] at this; exact (beq_eq_false_iff_ne.2 this.1).symm
theorem bad_is {p : List Dcl} (h : Ahead p) (n : Nd) : badRef (mOf p) n = badF p n := by
  have := look_find h n.2.2.2.2.1
  unfold badRef badF
  cases (n.1 == (2 : Int)) with
  | false => rfl
  | true =>
    simp only [Bool.true_and]
    cases hf : p.find? (refP n.2.2.2.2.1) with
    | some y =>
      rw [hf] at this
      rw [show lookM .str (.int .i64) n.2.2.2.2.1 (mOf p) = y.1 from this.1]
      rcases this.2 with e | e <;> simp only [bne, kind_b e] <;> rfl
    | none =>
      rw [hf] at this
      have a : (lookM .str (.int .i64) n.2.2.2.2.1 (mOf p) == (2 : Int)) = false := beq_eq_false_iff_ne.2 this.1
      have b : (lookM .str (.int .i64) n.2.2.2.2.1 (mOf p) == (4 : Int)) = false := beq_eq_false_iff_ne.2 this.2
      simp only [bne, a, b]
      rfl
theorem mm_cases (a b : ByteArray) : ((mnS a b).toList = a.toList ∧ (mxS a b).toList = b.toList ∧ Op.bytesLess b.toList a.toList = false) ∨ ((mnS a b).toList = b.toList ∧ (mxS a b).toList = a.toList ∧ Op.bytesLess a.toList b.toList = false) := by
  unfold mnS mxS
  cases h1 : Op.bytesLess a.toList b.toList with
  | true => exact .inl ⟨by simp, by simp, (less_no h1).1⟩
  | false =>
    cases h2 : Op.bytesLess b.toList a.toList with
    | true =>
      obtain ⟨_, _, k⟩ := less_no h2
      exact .inr ⟨by simp [(less_no h2).2.1], by simp, rfl⟩
    | false => exact .inr ⟨by simp [less_tot h1 h2], by simp, rfl⟩
theorem pair_eq (d x : Dcl) : eqv T81 (pairD d) (pairD x) = ((strEq x.2.1 d.2.1 && strEq x.2.2.1 d.2.2.1) || (strEq x.2.1 d.2.2.1 && strEq x.2.2.1 d.2.1)) := by
  have e : ∀ a b c e : ByteArray, eqv T81 [a, b] [c, e] = (strEq a c && strEq b e) := fun a b c e => by
    show (strEq a c && (strEq b e && true)) = _
    rw [Bool.and_true]
  unfold pairD
  rw [e, Bool.eq_iff_iff]
  simp only [Bool.and_eq_true, Bool.or_eq_true, strEq_iff]
  rcases mm_cases d.2.1 d.2.2.1 with ⟨a1, a2, a3⟩ | ⟨a1, a2, a3⟩ <;> rcases mm_cases x.2.1 x.2.2.1 with ⟨b1, b2, b3⟩ | ⟨b1, b2, b3⟩ <;> rw [a1, a2, b1, b2]
  · constructor
    · rintro ⟨e1, e2⟩; exact .inl ⟨e1.symm, e2.symm⟩
    · rintro (⟨e1, e2⟩ | ⟨e1, e2⟩)
      · exact ⟨e1.symm, e2.symm⟩
      · rw [e1, e2] at b3; have := less_tot b3 a3; exact ⟨by rw [e1, this], by rw [e2, this]⟩
  · constructor
    · rintro ⟨e1, e2⟩; exact .inr ⟨e2.symm, e1.symm⟩
    · rintro (⟨e1, e2⟩ | ⟨e1, e2⟩)
      · rw [e1, e2] at b3; have := less_tot b3 a3; exact ⟨by rw [e2, this], by rw [e1, this]⟩
      · exact ⟨e2.symm, e1.symm⟩
  · constructor
    · rintro ⟨e1, e2⟩; exact .inr ⟨e1.symm, e2.symm⟩
    · rintro (⟨e1, e2⟩ | ⟨e1, e2⟩)
      · rw [e1, e2] at b3; have := less_tot a3 b3; exact ⟨by rw [e1, this], by rw [e2, this]⟩
      · exact ⟨e1.symm, e2.symm⟩
  · constructor
    · rintro ⟨e1, e2⟩; exact .inl ⟨e2.symm, e1.symm⟩
    · rintro (⟨e1, e2⟩ | ⟨e1, e2⟩)
      · exact ⟨e2.symm, e1.symm⟩
      · rw [e1, e2] at b3; have := less_tot a3 b3; exact ⟨by rw [e2, this], by rw [e1, this]⟩
theorem hasC_is {x : List ByteArray} : ∀ {c : Covs}, hasM T81 (.int .i64) x c = (c.map Prod.fst).any (eqv T81 x)
  | [] => rfl
  | q :: c => by
    unfold hasM
    rw [List.map_cons, List.any_cons, hasC_is (c := c)]
    cases eqv T81 x q.1 <;> rfl
theorem cov_any (p : List Dcl) (d : Dcl) : (cOf p).any (eqv T81 (pairD d)) = p.any (agB d) := by
  unfold cOf
  induction p with
  | nil => rfl
  | cons x p ih =>
    rw [List.filter_cons, List.any_cons, ← ih]
    unfold agB
    cases (x.1 == (3 : Int)) with
    | false => simp
    | true => simp only [if_true, List.map_cons, List.any_cons, pair_eq, Bool.true_and]
theorem mm_eq (a b : ByteArray) : strEq (mnS a b) (mxS a b) = strEq a b := by
  rw [Bool.eq_iff_iff, strEq_iff, strEq_iff]
  rcases mm_cases a b with ⟨a1, a2, _⟩ | ⟨a1, a2, _⟩ <;> rw [a1, a2]
  exact ⟨Eq.symm, Eq.symm⟩
end Go.Proofs.YtlfcdmibknmjeaaDoor.E
