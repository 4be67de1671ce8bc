import Derived.Test.YtlfcdmibknmjeaaDoorNmH
namespace Go.Proofs.YtlfcdmibknmjeaaDoor.E
open Go Go.Proofs.YtlfcdmibknmjeaaDoor.Ev
/-! ### NamesAhead -/
def PN (n : api_Node.denote) (d : Dcl) : Bool := (d.1 == (2 : Int) || d.1 == (4 : Int)) && strEq d.2.1 n.2.2.2.2.1
theorem countP_one {α : Type} {p : α → Bool} : ∀ (l : List α) (m : Nat) (hm : m < l.length), p l[m] = true → (∀ j (h : j < l.length), p l[j] = true → j = m) → l.countP p = 1
  | d :: t, 0, _, hp, hu => by
    have hp : p d = true := hp
    rw [List.countP_cons_of_pos hp]
    have : t.countP p = 0 := List.countP_eq_zero.2 fun x hx hpx => by
      obtain ⟨j, hj, e⟩ := List.getElem_of_mem hx
      exact absurd (hu (j + 1) (by simpa using hj) (by simpa [e] using hpx)) (by omega)
    omega
  | d :: t, m + 1, hm, hp, hu => by
    have hd : ¬ p d = true := fun h => absurd (hu 0 (by simp) h) (by omega)
    rw [List.countP_cons_of_neg hd]
    exact countP_one t m (by simpa using hm) (by simpa using hp) fun j h hj => by have := hu (j + 1) (by simpa using h) (by simpa using hj); omega
theorem ref_facts {l : List Dcl} (hm : mayD l = true) (hn : checkL ⟨[], [], []⟩ l = none) {i : Nat} (hi : i < l.length) {n : api_Node.denote} (hmem : n ∈ l[i].2.2.2.2.2.2.1) (h2 : (n.1 == (2 : Int)) = true) :
    (∀ j (h : j < l.length), PN n l[j] = true → j < i) ∧ l.countP (PN n) = 1 := by
  obtain ⟨s, hinv, hf⟩ := inv_at l [] _ inv_nil hn i hi
  have hg : goodD l[i] = true := by
    unfold mayD at hm
    simp only [Bool.and_eq_true, List.all_eq_true] at hm
    exact hm.1 _ (List.getElem_mem _)
  have nobare : bareD l[i] = false := by
    cases hb : bareD l[i] with
    | false => rfl
    | true =>
      unfold bareD at hb
      have hb : l[i].2.2.2.2.2.2.1.length = 0 := by simpa using hb
      rw [List.length_eq_zero_iff.1 hb] at hmem
      cases hmem
  have h3 : (l[i].1 == (3 : Int)) = false := by
    cases h3 : (l[i].1 == (3 : Int)) with
    | false => rfl
    | true =>
      have e3 : l[i].1 = (3 : Int) := by simpa using h3
      unfold goodD at hg
      rw [e3, nobare] at hg
      simp at hg
  have h1 : (l[i].1 == (1 : Int)) = false := by
    cases h1 : (l[i].1 == (1 : Int)) with
    | false => rfl
    | true =>
      have e1 : l[i].1 = (1 : Int) := by simpa using h1
      unfold goodD at hg
      rw [e1, nobare] at hg
      simp at hg
  unfold askD at hf
  rw [h3, h1] at hf
  cases hh : hasM .str (.int .i64) l[i].2.1 s.m with
  | true => rw [hh] at hf; cases hf
  | false =>
    rw [hh] at hf
    have hf : (formD s.m l[i].2.2.2.2.2.2.1).1 = (0 : Int) := hf
    have hbr : badRef s.m n = false := by
      unfold formD at hf
      cases hfi : l[i].2.2.2.2.2.2.1.find? (badRef s.m) with
      | some x => rw [hfi] at hf; cases hf
      | none => simpa using List.find?_eq_none.1 hfi n hmem
    have hlook : ∃ v : Int, (v = 2 ∨ v = 4) ∧ lookM .str (.int .i64) n.2.2.2.2.1 s.m = v := by
      unfold badRef at hbr
      rw [h2] at hbr
      cases hA : (lookM .str (.int .i64) n.2.2.2.2.1 s.m != (2 : Int)) with
      | false => exact ⟨2, .inl rfl, by simpa using hA⟩
      | true =>
        rw [hA] at hbr
        exact ⟨4, .inr rfl, by simpa using hbr⟩
    obtain ⟨v, hv, hlook⟩ := hlook
    obtain ⟨q, hq, hq1, hq2⟩ := lookM_some (by rcases hv with rfl | rfl <;> decide) hlook
    rw [hinv.m] at hq
    unfold mOf at hq
    obtain ⟨d, hd, rfl⟩ := List.mem_map.1 hq
    obtain ⟨hd1, hd2⟩ := List.mem_filter.1 hd
    rw [List.nil_append] at hd1
    obtain ⟨m, hmi, rfl⟩ := List.mem_take_iff_getElem.1 hd1
    have hml : m < l.length := by omega
    have hmi' : m < i := by omega
    have hPm : PN n l[m] = true := by
      unfold PN
      have e : strEq l[m].2.1 n.2.2.2.2.1 = true := strEq_iff.2 (strEq_iff.1 hq1).symm
      rw [e]
      have hq2 : @Eq Int l[m].1 v := hq2
      rcases hv with rfl | rfl <;> simp [hq2]
    have isv : ∀ j (h : j < l.length), PN n l[j] = true → isV l[j] = true ∧ l[j].2.1.toList = n.2.2.2.2.1.toList := by
      intro j h hp
      unfold PN at hp
      simp only [Bool.and_eq_true, Bool.or_eq_true] at hp
      refine ⟨?_, strEq_iff.1 hp.2⟩
      unfold isV
      rcases hp.1 with e | e
      · have e : @Eq Int l[j].1 2 := by simpa using e
        simp [e]
      · have e : @Eq Int l[j].1 4 := by simpa using e
        simp [e]
    have hu : ∀ j (h : j < l.length), PN n l[j] = true → j = m := by
      intro j h hp
      obtain ⟨a1, a2⟩ := isv j h hp
      obtain ⟨b1, b2⟩ := isv m hml hPm
      rcases Nat.lt_trichotomy j m with hlt | he | hlt
      · have := uniq hn hlt hml a1 b1
        rw [strEq_iff.2 (b2.trans a2.symm)] at this
        cases this
      · exact he
      · have := uniq hn hlt h b1 a1
        rw [strEq_iff.2 (a2.trans b2.symm)] at this
        cases this
    exact ⟨fun j h hp => by rw [hu j h hp]; exact hmi', countP_one l m hml hPm hu⟩
theorem ahead_l0 {l : List Dcl} (hl : l.length ≤ 6000) {i kk : Int} (hi : 0 ≤ i ∧ i < l.length) (hk : 0 ≤ kk ∧ kk < (rdL (Ty.zero api_Decl) l i).2.2.2.2.2.2.1.length)
    (hA : ∀ j : Int, 0 ≤ j → j < l.length → PN (rdL (Ty.zero api_Node) (rdL (Ty.zero api_Decl) l i).2.2.2.2.2.2.1 kk) (rdL (Ty.zero api_Decl) l j) = true → j < i) :
    ∀ (m : Nat) (c j : Int), 0 ≤ j → 0 ≤ c → c ≤ j → (l.length : Int) - j ≤ m →
    Evw (fun k => law17_NamesAhead.l0 k l i kk c j) (· = Sum.inl (l, (i, (kk, c + ((l.drop j.toNat).countP (PN (rdL (Ty.zero api_Node) (rdL (Ty.zero api_Decl) l i).2.2.2.2.2.2.1 kk)) : Nat))))) := by
  intro m
  induction m with
  | zero =>
    intro c j h0 h1 h2 h3
    refine .succ ?_
    simp only [law17_NamesAhead.l0, law17_NamesAhead.b0]
    rw [List.drop_eq_nil_of_le (by omega)]
    exact .df (by omega) (.pure (by simp))
  | succ m ih =>
    intro c j h0 h1 h2 h3
    refine .succ ?_
    simp only [law17_NamesAhead.l0, law17_NamesAhead.b0]
    refine .dec (fun hj => ?_) fun hj => .pure (by rw [List.drop_eq_nil_of_le (by omega)]; simp)
    have hin := hA j h0 hj
    rw [rdL_drop (Ty.zero api_Decl) l j h0 hj]
    refine .bindv (x := (l, (i, (kk, (c, (j, PN (rdL (Ty.zero api_Node) (rdL (Ty.zero api_Decl) l i).2.2.2.2.2.2.1 kk) (rdL (Ty.zero api_Decl) l j))))))) ?_ ?_
    · refine .dt (by omega) (.cond (fun e => .dt (by omega) (.dt hi (.dt hk (.pure (by unfold PN; rw [e]; rfl))))) fun e => .dt (by omega) (.cond (fun e' => .dt (by omega) (.dt hi (.dt hk (.pure (by unfold PN; rw [e, e']; rfl))))) fun e' => .pure (by unfold PN; rw [e, e']; rfl)))
    · generalize hP : PN (rdL (Ty.zero api_Node) (rdL (Ty.zero api_Decl) l i).2.2.2.2.2.2.1 kk) = P at hin ⊢
      have e1 : IntKind.wrap .i64 (j + 1) = j + 1 := wrap64 (by omega) (by omega)
      have e2 : IntKind.wrap .i64 (c + 1) = c + 1 := wrap64 (by omega) (by omega)
      cases hc : P (rdL (Ty.zero api_Decl) l j) with
      | true =>
        refine .ct rfl (.df (show ¬ j ≥ i by have := hin hc; omega) ?_)
        show Evw (fun k => law17_NamesAhead.l0 k l i kk (IntKind.wrap .i64 (c + 1)) (IntKind.wrap .i64 (j + 1))) _
        have ec : c + (((l.drop (j + 1).toNat).countP P + 1 : Nat) : Int) = (c + 1) + ((l.drop (j + 1).toNat).countP P : Nat) := by omega
        rw [e1, e2, List.countP_cons_of_pos hc, ec]
        have := ih (c + 1) (j + 1) (by omega) (by omega) (by omega) (by omega)
        rw [hP] at this
        exact this
      | false =>
        refine .cf rfl ?_
        show Evw (fun k => law17_NamesAhead.l0 k l i kk c (IntKind.wrap .i64 (j + 1))) _
        rw [e1, List.countP_cons_of_neg (by simp [hc])]
        have := ih c (j + 1) (by omega) (by omega) (by omega) (by omega)
        rw [hP] at this
        exact this
theorem rdL_get' {α : Type} (z : α) (l : List α) (i : Int) (h0 : 0 ≤ i) (h : i < l.length) : rdL z l i = l[i.toNat]'(by omega) := by
  have hi : i.toNat < l.length := by omega
  simp [rdL, List.getD_eq_getElem?_getD, List.getElem?_eq_getElem hi]
theorem ahead_l1 {l : List Dcl} (h : ScriptOk l) (hl : l.length ≤ 6000) (hm : mayD l = true) (hn : checkL ⟨[], [], []⟩ l = none) {i : Int} (hi : 0 ≤ i ∧ i < l.length) : ∀ (m : Nat) (x : Int), 0 ≤ x → ((rdL (Ty.zero api_Decl) l i).2.2.2.2.2.2.1.length : Int) - x ≤ m →
    Evw (fun k => law17_NamesAhead.l1 k l i x) (· = Sum.inl (l, i)) := by
  have ht := (h.decl _ (rdL_mem (Ty.zero api_Decl) l i hi.1 hi.2)).trees
  unfold maxLen at ht
  intro m
  induction m with
  | zero =>
    intro x h0 h2
    refine .succ ?_
    simp only [law17_NamesAhead.l1, law17_NamesAhead.b1]
    exact .dt hi (.df (by omega) (.pure rfl))
  | succ m ih =>
    intro x h0 h2
    refine .succ ?_
    simp only [law17_NamesAhead.l1, law17_NamesAhead.b1]
    refine .dt hi (.dec (fun hx => .dt hi (.dt ⟨h0, hx⟩ (.cond (fun _ => ?_) fun h2' => ?_))) fun _ => .pure rfl)
    · rw [wrap64 (by omega) (by omega)]
      exact ih _ (by omega) (by omega)
    · have h2' : ((rdL (Ty.zero api_Node) (rdL (Ty.zero api_Decl) l i).2.2.2.2.2.2.1 x).1 == (2 : Int)) = true := by simpa using h2'
      have hmem := rdL_mem (Ty.zero api_Node) (rdL (Ty.zero api_Decl) l i).2.2.2.2.2.2.1 x h0 hx
      have hit : i.toNat < l.length := by omega
      obtain ⟨f1, f2⟩ := ref_facts hm hn hit (n := rdL (Ty.zero api_Node) (rdL (Ty.zero api_Decl) l i).2.2.2.2.2.2.1 x) (by have := rdL_get' (Ty.zero api_Decl) l i hi.1 hi.2; rw [← this]; exact hmem) h2'
      refine .bindv (ahead_l0 hl hi ⟨h0, hx⟩ (fun j j0 j1 hp => ?_) l.length 0 0 (by omega) (by omega) (by omega) (by omega)) ?_
      · rw [rdL_get' (Ty.zero api_Decl) l j j0 j1] at hp
        have := f1 j.toNat (by omega) hp
        omega
      · rw [Int.toNat_zero, List.drop_zero, f2]
        show Evw (fun k => law17_NamesAhead.l1 k l i (IntKind.wrap .i64 (x + 1))) _
        rw [wrap64 (by omega) (by omega)]
        exact ih _ (by omega) (by omega)
theorem ahead_l2 {l : List Dcl} (h : ScriptOk l) (hl : l.length ≤ 6000) (hm : mayD l = true) (hn : checkL ⟨[], [], []⟩ l = none) : ∀ (m : Nat) (i : Int), 0 ≤ i → (l.length : Int) - i ≤ m →
    Evw (fun k => law17_NamesAhead.l2 k l i) (· = Sum.inl ()) := by
  intro m
  induction m with
  | zero =>
    intro i h0 h2
    refine .succ ?_
    simp only [law17_NamesAhead.l2, law17_NamesAhead.b2]
    exact .df (by omega) (.pure rfl)
  | succ m ih =>
    intro i h0 h2
    refine .succ ?_
    simp only [law17_NamesAhead.l2, law17_NamesAhead.b2]
    refine .dec (fun hi => .bindv (ahead_l1 h hl hm hn ⟨h0, hi⟩ (List.length (rdL (Ty.zero api_Decl) l i).2.2.2.2.2.2.1) 0 (by omega) (by omega)) ?_) fun _ => .pure rfl
    show Evw (fun k => law17_NamesAhead.l2 k l (IntKind.wrap .i64 (i + 1))) _
    rw [wrap64 (by omega) (by omega)]
    exact ih _ (by omega) (by omega)
theorem cov_err (m : Names) (c : Covs) (d : Dcl) : (covD m c d).2 = 0 ∨ (covD m c d).2 = 13 ∨ (covD m c d).2 = 14 := by
  unfold covD
  cases (lookM .str (.int .i64) d.2.1 m != (2 : Int)) <;> cases (lookM .str (.int .i64) d.2.2.1 m != (2 : Int)) <;> cases hasM T81 (.int .i64) (pairD d) c <;> cases strEq (mnS d.2.1 d.2.2.1) (mxS d.2.1 d.2.2.1) <;> simp
theorem ask_err (s : Kno) (d : Dcl) : @Eq Int (askD s d).2.1 0 ∨ @Eq Int (askD s d).2.1 13 ∨ @Eq Int (askD s d).2.1 14 := by
  have hform : ∀ m t, @Eq Int (formD m t).1 0 ∨ @Eq Int (formD m t).1 13 ∨ @Eq Int (formD m t).1 14 := by
    intro m t
    unfold formD
    cases t.find? (badRef m) with
    | none => exact .inl rfl
    | some _ => exact .inr (.inl rfl)
  unfold askD
  cases (d.1 == (3 : Int)) with
  | true =>
    show @Eq Int (faultD (covD s.m s.c d).2 (atD d)).1 0 ∨ @Eq Int (faultD (covD s.m s.c d).2 (atD d)).1 13 ∨ @Eq Int (faultD (covD s.m s.c d).2 (atD d)).1 14
    rcases cov_err s.m s.c d with e | e | e <;> rw [e]
    · exact .inl rfl
    · exact .inr (.inl rfl)
    · exact .inr (.inr rfl)
  | false => cases (d.1 == (1 : Int)) with
    | true => cases hasM .str (.int .i64) d.2.1 s.u with
      | true => exact .inr (.inr rfl)
      | false => exact hform _ _
    | false => cases hasM .str (.int .i64) d.2.1 s.m with
      | true => exact .inr (.inr rfl)
      | false => exact hform _ _
theorem checkL_err : ∀ (l : List Dcl) (s : Kno) (f : Flt), checkL s l = some f → @Eq Int f.1 13 ∨ @Eq Int f.1 14
  | d :: l, s, f, h => by
    rw [checkL] at h
    cases hc : (askD s d).2.1 != (0 : Int) with
    | true =>
      rw [hc] at h
      have h : some (askD s d).2 = some f := h
      cases h
      rcases ask_err s d with e | e | e
      · rw [e] at hc; cases hc
      · exact .inl e
      · exact .inr e
    | false => rw [hc] at h; exact checkL_err l _ f h
theorem ahead_pure {l : List Dcl} (h : ScriptOk l) : Evw (fun k => law17_NamesAhead.f k l) (· = true) := by
  unfold law17_NamesAhead.f law17_NamesAhead.b
  refine .bind (large_ev h) fun b hb => .cond (fun _ => wakes_ret rfl) fun hf => ?_
  have hlen := hb hf
  refine .bindv (checkD_ev h) ?_
  unfold checkD
  cases hm : mayD l with
  | false => exact .ct rfl (.ret (.ct rfl (.ct rfl (wakes_ret rfl))))
  | true =>
    cases hn : checkL ⟨[], [], []⟩ l with
    | none =>
      refine .cf rfl (.bindv (ahead_l2 h hlen hm hn l.length 0 (by omega) (by omega)) ?_)
      exact wakes_ret rfl
    | some f =>
      have he := checkL_err l _ f hn
      obtain ⟨a, b, u⟩ := f
      rcases he with e | e
      · have e : a = 13 := e
        subst e
        exact .ct rfl (.ret (.cf rfl (.ct rfl (wakes_ret rfl))))
      · have e : a = 14 := e
        subst e
        exact .ct rfl (.ret (.cf rfl (.cf rfl (.ct rfl (wakes_ret rfl)))))
end Go.Proofs.YtlfcdmibknmjeaaDoor.E
