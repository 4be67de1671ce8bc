import Derived.Test.YtlfcdmibknmjeaaDoorNmC
namespace Go.Proofs.YtlfcdmibknmjeaaDoor.E
open Go Go.Proofs.YtlfcdmibknmjeaaDoor.Ev
/-! ### a script's names: what Check answers, as one fold -/
theorem rdL_drop {α : Type} (z : α) (l : List α) (i : Int) (h0 : 0 ≤ i) (h : i < l.length) : l.drop i.toNat = rdL z l i :: l.drop (i + 1).toNat := by
  have hi : i.toNat < l.length := by omega
  rw [show (i + 1).toNat = i.toNat + 1 by omega, List.drop_eq_getElem_cons hi]
  simp [rdL, List.getD_eq_getElem?_getD, List.getElem?_eq_getElem hi]
theorem rdL_mem {α : Type} (z : α) (l : List α) (i : Int) (h0 : 0 ≤ i) (h : i < l.length) : rdL z l i ∈ l := by
  have hi : i.toNat < l.length := by omega
  rw [show rdL z l i = l[i.toNat] by simp [rdL, List.getD_eq_getElem?_getD, List.getElem?_eq_getElem hi]]
  exact List.getElem_mem _
structure ScriptOk (l : List api_Decl.denote) : Prop where
  decl : ∀ d ∈ l, DeclOk d
  len : l.length ≤ maxLen
noncomputable def mayD (l : List api_Decl.denote) : Bool := l.all goodD && decide ((l.length : Int) ≤ 60)
theorem may_l {l : List api_Decl.denote} (h : ScriptOk l) : ∀ (n : Nat) (i : Int), 0 ≤ i → (l.length : Int) - i ≤ n →
    Evw (fun k => names_may.l0 k l l l.length i) (· = bif (l.drop i.toNat).all goodD then Sum.inl l else Sum.inr false) := by
  have hl := h.len
  unfold maxLen at hl
  intro n
  induction n with
  | zero =>
    intro i h0 h2
    refine .succ ?_
    simp only [names_may.l0, names_may.b0]
    rw [List.drop_eq_nil_of_le (by omega)]
    exact .df (by omega) (.pure rfl)
  | succ n ih =>
    intro i h0 h2
    refine .succ ?_
    simp only [names_may.l0, names_may.b0]
    refine .dec (fun hi => .dt (by omega) (.bindv (goodD_ev (h.decl _ (rdL_mem _ l i h0 hi))) ?_)) fun hi => ?_
    · rw [rdL_drop (Ty.zero api_Decl) l i h0 hi, List.all_cons]
      cases goodD (rdL (Ty.zero api_Decl) l i) with
      | false => exact .pure rfl
      | true =>
        show Evw (fun k => names_may.l0 k l l l.length (IntKind.wrap .i64 (i + 1))) _
        rw [wrap64 (by omega) (by omega)]
        exact ih _ (by omega) (by omega)
    · rw [List.drop_eq_nil_of_le (by omega)]
      exact .pure rfl
theorem mayD_ev {l : List api_Decl.denote} (h : ScriptOk l) : Evw (fun k => names_may.f k l) (· = mayD l) := by
  unfold names_may.f names_may.b mayD
  refine .bindv (may_l h l.length 0 (by omega) (by omega)) ?_
  simp only [Int.toNat_zero, List.drop_zero]
  cases l.all goodD <;> exact .pure rfl
abbrev Names := List (ByteArray × Int)
abbrev Covs := List (List ByteArray × Int)
abbrev Flt := api_Fault.denote
def badRef (m : Names) (n : api_Node.denote) : Bool := (n.1 == (2 : Int)) && ((lookM .str (.int .i64) n.2.2.2.2.1 m != (2 : Int)) && (lookM .str (.int .i64) n.2.2.2.2.1 m != (4 : Int)))
def formD (m : Names) (t : List api_Node.denote) : Flt := match t.find? (badRef m) with
  | some n => ((13 : Int), (n.2.2.2.2.2.2.1, ()))
  | none => ((0 : Int), ((0 : Int), ()))
theorem form_l (m u : Names) (c : Covs) (z : Flt) (t : List api_Node.denote) (ht : t.length ≤ maxLen) : ∀ (n : Nat) (i : Int), 0 ≤ i → (t.length : Int) - i ≤ n →
    Evw (fun k => names_known_formula.l0 k m u c z t t.length i) (· = match (t.drop i.toNat).find? (badRef m) with | some n => Sum.inr (((13 : Int), (n.2.2.2.2.2.2.1, ())), (m, (u, c))) | none => Sum.inl (z, (m, (u, c)))) := by
  unfold maxLen at ht
  intro n
  induction n with
  | zero =>
    intro i h0 h2
    refine .succ ?_
    simp only [names_known_formula.l0, names_known_formula.b0]
    rw [List.drop_eq_nil_of_le (by omega)]
    exact .df (by omega) (.pure rfl)
  | succ n ih =>
    intro i h0 h2
    refine .succ ?_
    simp only [names_known_formula.l0, names_known_formula.b0]
    refine .dec (fun hi => .dt (by omega) ?_) fun hi => ?_
    · refine .bindv (x := (m, (u, (c, (z, ((rdL (Ty.zero api_Node) t i), (t, (((List.length t : Nat) : Int), (i, badRef m (rdL (Ty.zero api_Node) t i)))))))))) ?_ ?_
      · unfold badRef
        cases ((rdL (Ty.zero api_Node) t i).1 == (2 : Int)) <;> cases (lookM .str (.int .i64) (rdL (Ty.zero api_Node) t i).2.2.2.2.1 m != (2 : Int)) <;> exact .pure rfl
      · rw [rdL_drop (Ty.zero api_Node) t i h0 hi, List.find?_cons]
        cases badRef m (rdL (Ty.zero api_Node) t i) with
        | true => exact .pure rfl
        | false =>
          show Evw (fun k => names_known_formula.l0 k m u c z t t.length (IntKind.wrap .i64 (i + 1))) _
          rw [wrap64 (by omega) (by omega)]
          exact ih _ (by omega) (by omega)
    · rw [List.drop_eq_nil_of_le (by omega)]
      exact .pure rfl
theorem form_ev (m u : Names) (c : Covs) (t : List api_Node.denote) (ht : t.length ≤ maxLen) : Evw (fun k => names_known_formula.f k m u c t) (· = (m, (u, (c, formD m t)))) := by
  unfold names_known_formula.f names_known_formula.b formD
  refine .bindv (form_l m u c _ t ht t.length 0 (by omega) (by omega)) ?_
  simp only [Int.toNat_zero, List.drop_zero]
  cases t.find? (badRef m) <;> exact .pure rfl
def pairD (d : api_Decl.denote) : List ByteArray := [mnS d.2.1 d.2.2.1, mxS d.2.1 d.2.2.1]
/-- a covariance: the error, and the covariances behind it -/
def covD (m : Names) (c : Covs) (d : api_Decl.denote) : Covs × Int :=
  bif lookM .str (.int .i64) d.2.1 m != (2 : Int) then (c, 13) else bif lookM .str (.int .i64) d.2.2.1 m != (2 : Int) then (c, 13) else
  bif hasM T81 (.int .i64) (pairD d) c then (c, 14) else bif strEq (mnS d.2.1 d.2.2.1) (mxS d.2.1 d.2.2.1) then (c, 14) else (setM T81 (.int .i64) (pairD d) (((List.length c) : Nat) : Int) c, 0)
theorem cov_eq (m u : Names) (c : Covs) (d : api_Decl.denote) : names_known_cov.f m u c d = some (m, (u, ((covD m c d).1, (covD m c d).2))) := by
  unfold names_known_cov.f covD
  cases lookM .str (.int .i64) d.2.1 m != (2 : Int) with
  | true => rfl
  | false => cases lookM .str (.int .i64) d.2.2.1 m != (2 : Int) with
    | true => rfl
    | false =>
      show _root_.cond (hasM T81 (.int .i64) (pairD d) c) _ _ = _
      cases hasM T81 (.int .i64) (pairD d) c with
      | true => rfl
      | false =>
        show _root_.cond (strEq (mnS d.2.1 d.2.2.1) (mxS d.2.1 d.2.2.1)) _ _ = _
        cases strEq (mnS d.2.1 d.2.2.1) (mxS d.2.1 d.2.2.1) <;> rfl
def faultD (e a : Int) : Flt := bif e == (0 : Int) then ((0 : Int), ((0 : Int), ())) else (e, (a, ()))
theorem fault_eq (e a : Int) : names_fault.f e a = some (faultD e a) := by
  unfold names_fault.f faultD
  cases e == (0 : Int) <;> rfl
structure Kno where
  m : Names
  u : Names
  c : Covs
def atD (d : api_Decl.denote) : Int := d.2.2.2.2.2.2.2.2.1
def askD (s : Kno) (d : api_Decl.denote) : Kno × Flt :=
  bif d.1 == (3 : Int) then (⟨s.m, s.u, (covD s.m s.c d).1⟩, faultD (covD s.m s.c d).2 (atD d)) else
  bif d.1 == (1 : Int) then (bif hasM .str (.int .i64) d.2.1 s.u then (s, faultD 14 (atD d)) else (⟨s.m, setM .str (.int .i64) d.2.1 d.1 s.u, s.c⟩, formD s.m d.2.2.2.2.2.2.1)) else
  bif hasM .str (.int .i64) d.2.1 s.m then (s, faultD 14 (atD d)) else (⟨setM .str (.int .i64) d.2.1 d.1 s.m, s.u, s.c⟩, formD s.m d.2.2.2.2.2.2.1)
theorem ask_ev (s : Kno) {d : api_Decl.denote} (h : DeclOk d) : Evw (fun k => names_known_ask.f k s.m s.u s.c d) (· = ((askD s d).1.m, ((askD s d).1.u, ((askD s d).1.c, (askD s d).2)))) := by
  unfold names_known_ask.f names_known_ask.b askD
  cases d.1 == (3 : Int) with
  | true => exact .bindv (.const (cov_eq s.m s.u s.c d) rfl) (.bindv (.const (fault_eq _ _) rfl) (.pure rfl))
  | false => cases d.1 == (1 : Int) with
    | true =>
      show Evw (fun k => _root_.cond (hasM .str (.int .i64) d.2.1 s.u) _ _) _
      cases hasM .str (.int .i64) d.2.1 s.u with
      | true => exact .ct rfl (.bindv (.const (fault_eq _ _) rfl) (.pure rfl))
      | false => exact .cf rfl (.bindv (form_ev s.m s.u s.c _ h.trees) (.pure rfl))
    | false =>
      show Evw (fun k => _root_.cond (hasM .str (.int .i64) d.2.1 s.m) _ _) _
      cases hasM .str (.int .i64) d.2.1 s.m with
      | true => exact .ct rfl (.bindv (.const (fault_eq _ _) rfl) (.pure rfl))
      | false => exact .cf rfl (.bindv (form_ev s.m s.u s.c _ h.trees) (.pure rfl))
/-- from here on: the first fault, if there is one -/
def checkL (s : Kno) : List api_Decl.denote → Option Flt
  | [] => none
  | d :: l => bif (askD s d).2.1 != (0 : Int) then some (askD s d).2 else checkL (askD s d).1 l
theorem check_l {l : List api_Decl.denote} (h : ScriptOk l) (z : Flt) : ∀ (n : Nat) (i : Int) (s : Kno), 0 ≤ i → (l.length : Int) - i ≤ n →
    Evw (fun k => names_Check.l0 k z s.m s.u s.c l l.length i) (· = match checkL s (l.drop i.toNat) with | some f => Sum.inr f | none => Sum.inl z) := by
  have hl := h.len
  unfold maxLen at hl
  intro n
  induction n with
  | zero =>
    intro i s h0 h2
    refine .succ ?_
    simp only [names_Check.l0, names_Check.b0]
    rw [List.drop_eq_nil_of_le (by omega)]
    exact .df (by omega) (.pure rfl)
  | succ n ih =>
    intro i s h0 h2
    refine .succ ?_
    simp only [names_Check.l0, names_Check.b0]
    refine .dec (fun hi => .dt (by omega) (.bindv (ask_ev s (h.decl _ (rdL_mem _ l i h0 hi))) ?_)) fun hi => ?_
    · rw [rdL_drop (Ty.zero api_Decl) l i h0 hi, checkL]
      show Evw (fun k => _root_.cond ((askD s (rdL (Ty.zero api_Decl) l i)).2.1 != (0 : Int)) _ _) _
      cases (askD s (rdL (Ty.zero api_Decl) l i)).2.1 != (0 : Int) with
      | true => exact .pure rfl
      | false =>
        show Evw (fun k => names_Check.l0 k z (askD s (rdL (Ty.zero api_Decl) l i)).1.m (askD s (rdL (Ty.zero api_Decl) l i)).1.u (askD s (rdL (Ty.zero api_Decl) l i)).1.c l l.length (IntKind.wrap .i64 (i + 1))) _
        rw [wrap64 (by omega) (by omega)]
        exact ih _ _ (by omega) (by omega)
    · rw [List.drop_eq_nil_of_le (by omega)]
      exact .pure rfl
noncomputable def checkD (l : List api_Decl.denote) : Flt := bif !mayD l then ((1 : Int), ((0 : Int), ())) else (checkL ⟨[], [], []⟩ l).getD ((0 : Int), ((0 : Int), ()))
theorem checkD_ev {l : List api_Decl.denote} (h : ScriptOk l) : Evw (fun k => names_Check.f k l) (· = checkD l) := by
  unfold names_Check.f names_Check.b checkD
  refine .bindv (mayD_ev h) ?_
  cases mayD l with
  | false => exact .pure rfl
  | true =>
    refine .bindv (check_l h _ l.length 0 ⟨[], [], []⟩ (by omega) (by omega)) ?_
    simp only [Int.toNat_zero, List.drop_zero]
    cases checkL ⟨[], [], []⟩ l <;> exact .pure rfl
end Go.Proofs.YtlfcdmibknmjeaaDoor.E
