import Derived.Test.YtlfcdmibknmjeaaDoorNmW
namespace Go.Proofs.YtlfcdmibknmjeaaDoor.E
open Go Go.Proofs.YtlfcdmibknmjeaaDoor.Ev
set_option linter.unusedSimpArgs false
/-! ### NamesTell: the reference's trees -/
def runT : List Nd → List Int → Option (List Int)
  | [], l => some l
  | n :: t, l => match stepT n l with | some x => runT t (l ++ [x]) | none => none
theorem condSome {c : Bool} {a x : Int} (h : (bif c then some a else none) = some x) : c = true ∧ a = x := by
  cases c with
  | true => exact ⟨rfl, Option.some.inj h⟩
  | false => cases h
theorem stepT_ok {n : Nd} {l : List Int} {x : Int} (hl : FromOk l) (h : stepT n l = some x) : 0 ≤ x ∧ x ≤ l.length := by
  have over : overB n l = true → 0 ≤ lastF l ∧ lastF l ≤ l.length := fun ho => by
    unfold overB at ho
    simp only [Bool.and_eq_true, decide_eq_true_eq] at ho
    have := lastF_ok hl (by omega)
    omega
  unfold stepT at h
  cases h1 : (n.1 == (1 : Int)) with
  | true => rw [h1] at h; obtain ⟨_, rfl⟩ := condSome h; omega
  | false => cases h2 : (n.1 == (2 : Int)) with
    | true => rw [h1, h2] at h; obtain ⟨_, rfl⟩ := condSome h; omega
    | false => cases h7 : (n.1 == (7 : Int)) with
      | true =>
        rw [h1, h2, h7] at h
        obtain ⟨hc, rfl⟩ := condSome h
        simp only [Bool.and_eq_true] at hc
        exact over hc.2
      | false => cases h8 : (n.1 == (8 : Int)) with
        | true =>
          rw [h1, h2, h7, h8] at h
          obtain ⟨hc, rfl⟩ := condSome h
          simp only [Bool.and_eq_true] at hc
          exact over hc.2.2
        | false => cases h3 : twoK n.1 with
          | true =>
            rw [h1, h2, h7, h8, h3] at h
            obtain ⟨hc, rfl⟩ := condSome h
            unfold twoB at hc
            simp only [Bool.and_eq_true, decide_eq_true_eq, beq_iff_eq] at hc
            obtain ⟨c1, c2, c3, c4, _⟩ := hc
            have hf := lastF_ok hl (by omega)
            have c4 : @Eq Int n.2.1 (lastF l - 1) := c4
            have := hl.at (i := n.2.1) (by omega) (by omega)
            omega
          | false => rw [h1, h2, h7, h8, h3] at h; cases h
theorem two_v (K : Int) : ref14_Two.f K = some (twoK K) := by
  unfold ref14_Two.f twoK
  cases (K == (3 : Int)) <;> cases (K == (4 : Int)) <;> cases (K == (5 : Int)) <;> rfl
theorem rbegin_step' (t : List Nd) (l : List Int) (hl : FromOk l) (hi : (l.length : Int) < t.length) (hlen : l.length < 2000) (K A B N : Int) (T U : ByteArray) (P : Int) (e : rdL (Ty.zero api_Node) t l.length = (K, A, B, N, T, U, P, ())) (hn : T.size ≤ maxLen ∧ U.size ≤ maxLen) :
    ref14_Begin.b0 ref09_Good.V ref14_Units.V ref14_Begin.V0 ref13_IsName.V t l l.length = match stepT (K, A, B, N, T, U, P, ()) l with | some x => ref14_Begin.V0 t (l ++ [x]) ((l.length : Int) + 1) | none => some (Sum.inr ()) := by
  unfold ref14_Begin.b0
  rw [dt' hi, dt' (show 0 ≤ (l.length : Int) ∧ (l.length : Int) < t.length by omega)]
  rw [e]
  have g1 := rlit_v (s := T) hn.1
  have g2 := units_v (s := U) hn.2
  have g3 := rname_v (s := T) hn.1
  have hg : ∀ x : Int, decide (l.length + List.length (x :: ([] : List Int)) ≤ 68719476736) = true := fun x => dt' (by simp only [List.length_cons, List.length_nil]; omega)
  have w0 : IntKind.wrap .i64 ((l.length : Int) + 1) = (l.length : Int) + 1 := wrap64 (by omega) (by omega)
  have w1 : IntKind.wrap .i64 ((l.length : Int) - 1) = (l.length : Int) - 1 := wrap64 (by omega) (by omega)
  have lf : rdL (0 : Int) l ((l.length : Int) - 1) = lastF l := rfl
  simp only [cond_true, w0, w1, lf]
  have first : (bif A == (0 : Int) then (bif B == (0 : Int) then some ((K, A, B, N, T, U, P, ()), (t, (l, ((l.length : Int), (N == (0 : Int)))))) else some ((K, A, B, N, T, U, P, ()), (t, (l, ((l.length : Int), false))))) else some ((K, A, B, N, T, U, P, ()), (t, (l, ((l.length : Int), false))))) = some ((K, A, B, N, T, U, P, ()), (t, (l, ((l.length : Int), leafB (K, A, B, N, T, U, P, ()))))) := by
    unfold leafB
    cases (A == (0 : Int)) <;> cases (B == (0 : Int)) <;> rfl
  rw [first, Option.bind_some]
  simp only
  generalize hleaf : leafB (K, A, B, N, T, U, P, ()) = lb
  by_cases k1 : K = 1
  · subst k1
    unfold stepT
    rw [hleaf]
    simp only [BEq.rfl, show ((1 : Int) == 2) = false from rfl, show ((1 : Int) == 3) = false from rfl, show ((1 : Int) == 4) = false from rfl, show ((1 : Int) == 5) = false from rfl, show ((1 : Int) == 6) = false from rfl, show ((1 : Int) == 7) = false from rfl, show ((1 : Int) == 8) = false from rfl, cond_true, cond_false]
    cases lb with
    | false => rfl
    | true =>
      simp only [g1, g2, cond_true, cond_false, Option.bind_some, Bool.true_and]
      cases litB T <;> cases unitsB U <;> simp only [cond_true, cond_false, Option.bind_some, hg, w0, w1, lf, Bool.true_and, Bool.false_and, Bool.and_false, show ((1 : Int) == 2) = false from rfl, show ((1 : Int) == 3) = false from rfl, show ((1 : Int) == 4) = false from rfl, show ((1 : Int) == 5) = false from rfl, show ((1 : Int) == 6) = false from rfl, show ((1 : Int) == 7) = false from rfl, show ((1 : Int) == 8) = false from rfl] <;> rfl
  by_cases k2 : K = 2
  · subst k2
    unfold stepT
    rw [hleaf]
    simp only [BEq.rfl, show ((2 : Int) == 1) = false from rfl, show ((2 : Int) == 3) = false from rfl, show ((2 : Int) == 4) = false from rfl, show ((2 : Int) == 5) = false from rfl, show ((2 : Int) == 6) = false from rfl, show ((2 : Int) == 7) = false from rfl, show ((2 : Int) == 8) = false from rfl, cond_true, cond_false, Option.bind_some]
    cases lb with
    | false => rfl
    | true =>
      simp only [g3, cond_true, cond_false, Option.bind_some, Bool.true_and]
      cases nameB T <;> cases strEq U (ByteArray.mk #[]) <;> simp only [cond_true, cond_false, Option.bind_some, hg, w0, w1, lf, Bool.true_and, Bool.false_and, Bool.and_false, show ((2 : Int) == 1) = false from rfl, show ((2 : Int) == 3) = false from rfl, show ((2 : Int) == 4) = false from rfl, show ((2 : Int) == 5) = false from rfl, show ((2 : Int) == 6) = false from rfl, show ((2 : Int) == 7) = false from rfl, show ((2 : Int) == 8) = false from rfl] <;> rfl
  have hlast : decide ((0 : Int) ≤ (l.length : Int) - 1 ∧ (l.length : Int) - 1 < (l.length : Int)) = decide ((l.length : Int) > 0) := decide_eq_decide.2 (by omega)
  by_cases k7 : K = 7
  · subst k7
    unfold stepT overB bareN
    simp only [BEq.rfl, show ((7 : Int) == 1) = false from rfl, show ((7 : Int) == 2) = false from rfl, show ((7 : Int) == 3) = false from rfl, show ((7 : Int) == 4) = false from rfl, show ((7 : Int) == 5) = false from rfl, show ((7 : Int) == 6) = false from rfl, show ((7 : Int) == 8) = false from rfl, cond_true, cond_false, Option.bind_some, w0, w1, lf, hlast]
    cases (N == (0 : Int)) <;> cases hd : decide ((l.length : Int) > 0) <;> cases (A == (l.length : Int) - 1) <;> cases (B == (0 : Int)) <;> cases strEq T (ByteArray.mk #[]) <;> cases strEq U (ByteArray.mk #[]) <;> simp only [cond_true, cond_false, Option.bind_some, hg, w0, w1, lf, hlast, hd, Bool.true_and, Bool.false_and, Bool.and_false] <;> rfl
  by_cases k8 : K = 8
  · subst k8
    unfold stepT overB bareN
    simp only [BEq.rfl, show ((8 : Int) == 1) = false from rfl, show ((8 : Int) == 2) = false from rfl, show ((8 : Int) == 3) = false from rfl, show ((8 : Int) == 4) = false from rfl, show ((8 : Int) == 5) = false from rfl, show ((8 : Int) == 6) = false from rfl, show ((8 : Int) == 7) = false from rfl, cond_true, cond_false, Option.bind_some, w0, w1, lf, hlast, show -(64 : Int) = -64 from rfl]
    cases decide (N ≥ -64) <;> cases decide (N ≤ 64) <;> cases hd : decide ((l.length : Int) > 0) <;> cases (A == (l.length : Int) - 1) <;> cases (B == (0 : Int)) <;> cases strEq T (ByteArray.mk #[]) <;> cases strEq U (ByteArray.mk #[]) <;> simp only [cond_true, cond_false, Option.bind_some, hg, w0, w1, lf, hlast, hd, Bool.true_and, Bool.false_and, Bool.and_false] <;> rfl
  have b : ∀ m : Int, K ≠ m → (K == m) = false := fun m h => by simpa using h
  unfold stepT
  simp only [b 1 k1, b 2 k2, b 7 k7, b 8 k8, cond_false, Option.bind_some, two_v, w0, w1, lf]
  cases twoK K with
  | false => rfl
  | true =>
    unfold twoB bareN
    simp only [cond_true]
    by_cases h0 : (l.length : Int) > 1
    · have hf := lastF_ok hl (by omega)
      have w2 : IntKind.wrap .i64 (lastF l - 1) = lastF l - 1 := wrap64 (by omega) (by omega)
      have h3 : decide ((l.length : Int) > 0) = true := dt' (by omega)
      simp only [dt' h0, cond_true, hlast, h3, w2, Bool.true_and]
      by_cases hA : A = lastF l - 1
      · simp only [show (A == lastF l - 1) = true by simpa using hA, Bool.true_and, cond_true]
        by_cases hp : lastF l > 0
        · have hg2 : decide (0 ≤ A ∧ A < (l.length : Int)) = true := dt' (by omega)
          simp only [dt' hp, Bool.true_and, cond_true]
          cases (B == (l.length : Int) - 1) <;> cases (N == (0 : Int)) <;> cases strEq T (ByteArray.mk #[]) <;> cases strEq U (ByteArray.mk #[]) <;> simp only [cond_true, cond_false, Option.bind_some, hg, w0, w1, lf, hg2, Bool.true_and, Bool.false_and, Bool.and_false] <;> rfl
        · simp only [df' hp, Bool.false_and, cond_false, Bool.and_false]
          cases (B == (l.length : Int) - 1) <;> rfl
      · simp only [show (A == lastF l - 1) = false by simpa using hA, Bool.false_and, cond_false, Bool.and_false]
        cases (B == (l.length : Int) - 1) <;> cases decide (lastF l > 0) <;> rfl
    · simp only [df' h0, Bool.false_and, cond_false]
      rfl
theorem rbegin_step (t : List Nd) (l : List Int) (hl : FromOk l) (hi : (l.length : Int) < t.length) (hlen : l.length < 2000) (hn : NodeOk2 (rdL (Ty.zero api_Node) t l.length)) :
    ref14_Begin.b0 ref09_Good.V ref14_Units.V ref14_Begin.V0 ref13_IsName.V t l l.length = match stepT (rdL (Ty.zero api_Node) t l.length) l with | some x => ref14_Begin.V0 t (l ++ [x]) ((l.length : Int) + 1) | none => some (Sum.inr ()) := by
  rcases e : rdL (Ty.zero api_Node) t l.length with ⟨K, A, B, N, T, U, P, ⟨⟩⟩
  rw [e] at hn
  exact rbegin_step' t l hl hi hlen K A B N T U P e hn
theorem rbegin_l (t : List Nd) (ht : t.length ≤ 2000) (hn : ∀ n ∈ t, NodeOk2 n) : ∀ (m : Nat) (l : List Int), FromOk l → l.length ≤ t.length → t.length - l.length ≤ m →
    ref14_Begin.V0 t l l.length = match runT (t.drop l.length) l with | some l' => some (Sum.inl l') | none => some (Sum.inr ()) := by
  intro m
  induction m with
  | zero =>
    intro l hl h1 h2
    rw [List.drop_eq_nil_of_le (by omega)]
    refine ref14_Begin.v0 _ _ _ ?_
    unfold ref14_Begin.b0
    rw [df' (by omega)]
    rfl
  | succ m ih =>
    intro l hl h1 h2
    by_cases hi : (l.length : Int) < t.length
    · have hd := rdL_drop (Ty.zero api_Node) t l.length (by omega) hi
      rw [show (l.length : Int).toNat = l.length by omega, show ((l.length : Int) + 1).toNat = l.length + 1 by omega] at hd
      have st := rbegin_step t l hl hi (by omega) (hn _ (rdL_mem _ t l.length (by omega) hi))
      rw [hd, runT]
      cases hs : stepT (rdL (Ty.zero api_Node) t l.length) l with
      | none => rw [hs] at st; exact ref14_Begin.v0 _ _ _ st
      | some x =>
        rw [hs] at st
        have hx := stepT_ok hl hs
        have := ih (l ++ [x]) (hl.snoc (by omega) hx.1 hx.2) (by simp; omega) (by simp; omega)
        simp only [List.length_append, List.length_singleton, Int.natCast_add, Int.cast_ofNat_Int] at this
        simp only
        cases hr : runT (t.drop (l.length + 1)) (l ++ [x]) with
        | none => rw [hr] at this; exact ref14_Begin.v0 _ _ _ (st.trans this)
        | some l' => rw [hr] at this; exact ref14_Begin.v0 _ _ _ (st.trans this)
    · rw [List.drop_eq_nil_of_le (by omega)]
      refine ref14_Begin.v0 _ _ _ ?_
      unfold ref14_Begin.b0
      rw [df' hi]
      rfl
theorem good_l (t : List Nd) (ht : t.length ≤ 2000) (hn : ∀ n ∈ t, NodeOk2 n) : ∀ (m : Nat) (l : List Int), FromOk l → l.length ≤ t.length → t.length - l.length ≤ m →
    tree_Good.V0 t l t t.length l.length = match runT (t.drop l.length) l with | some l' => some (Sum.inl (t, l')) | none => some (Sum.inr false) := by
  intro m
  induction m with
  | zero =>
    intro l hl h1 h2
    rw [List.drop_eq_nil_of_le (by omega)]
    refine tree_Good.v0 _ _ _ _ _ ?_
    unfold tree_Good.b0
    rw [df' (by omega)]
    rfl
  | succ m ih =>
    intro l hl h1 h2
    by_cases hi : (l.length : Int) < t.length
    · have hd := rdL_drop (Ty.zero api_Node) t l.length (by omega) hi
      rw [show (l.length : Int).toNat = l.length by omega, show ((l.length : Int) + 1).toNat = l.length + 1 by omega] at hd
      obtain ⟨y, e1, e2⟩ := begin_v (rdL (Ty.zero api_Node) t l.length) l hl (hn _ (rdL_mem _ t l.length (by omega) hi))
      have st : tree_Good.b0 tree_begin.V tree_Good.V0 t l t t.length l.length = match stepT (rdL (Ty.zero api_Node) t l.length) l with | some x => tree_Good.V0 t (l ++ [x]) t t.length ((l.length : Int) + 1) | none => some (Sum.inr false) := by
        unfold tree_Good.b0
        rw [dt' hi, dt' (show 0 ≤ (l.length : Int) ∧ (l.length : Int) < t.length by omega), e1, e2]
        simp only [cond_true, Option.bind_some]
        cases y.2 with
        | false => rfl
        | true =>
          simp only [Bool.not_true, cond_true, cond_false]
          rw [dt' (by simp only [List.length_cons, List.length_nil]; omega), wrap64 (by omega) (by omega)]
          rfl
      rw [hd, runT]
      cases hs : stepT (rdL (Ty.zero api_Node) t l.length) l with
      | none => rw [hs] at st; exact tree_Good.v0 _ _ _ _ _ st
      | some x =>
        rw [hs] at st
        have hx := stepT_ok hl hs
        have := ih (l ++ [x]) (hl.snoc (by omega) hx.1 hx.2) (by simp; omega) (by simp; omega)
        simp only [List.length_append, List.length_singleton, Int.natCast_add, Int.cast_ofNat_Int] at this
        simp only
        cases hr : runT (t.drop (l.length + 1)) (l ++ [x]) with
        | none => rw [hr] at this; exact tree_Good.v0 _ _ _ _ _ (st.trans this)
        | some l' => rw [hr] at this; exact tree_Good.v0 _ _ _ _ _ (st.trans this)
    · rw [List.drop_eq_nil_of_le (by omega)]
      refine tree_Good.v0 _ _ _ _ _ ?_
      unfold tree_Good.b0
      rw [df' hi]
      rfl
theorem runT_len : ∀ (t : List Nd) (l l' : List Int), runT t l = some l' → l'.length = l.length + t.length
  | [], l, l', h => by cases h; rfl
  | n :: t, l, l', h => by
    rw [runT] at h
    cases hs : stepT n l with
    | none => rw [hs] at h; cases h
    | some x =>
      rw [hs] at h
      have := runT_len t (l ++ [x]) l' h
      simp only [List.length_append, List.length_cons, List.length_nil] at this ⊢
      omega
def treeD (t : List Nd) : Bool := !decide ((t.length : Int) < 1) && (!decide ((t.length : Int) > 2000) && match runT t [] with | some l => lastF l == (0 : Int) | none => false)
theorem nilOk : FromOk [] := ⟨by simp, fun i hi => by cases hi⟩
theorem tree_v {t : List Nd} (hn : ∀ n ∈ t, NodeOk2 n) : tree_Good.V t = some (treeD t) := by
  refine tree_Good.v _ ?_
  unfold tree_Good.b treeD
  by_cases h1 : (t.length : Int) < 1
  · rw [dt' h1]; rfl
  by_cases h2 : (t.length : Int) > 2000
  · rw [df' h1, dt' h2]; rfl
  rw [df' h1, df' h2]
  simp only [cond_false, Bool.not_false, Bool.true_and]
  have := good_l t (by omega) hn t.length [] nilOk (by simp) (by simp)
  rw [List.length_nil, List.drop_zero] at this
  rw [show tree_Good.V0 t [] t t.length (0 : Int) = tree_Good.V0 t [] t t.length ((0 : Nat) : Int) from rfl, this]
  cases hr : runT t [] with
  | none => rfl
  | some l =>
    have hl := runT_len t [] l hr
    rw [List.length_nil] at hl
    simp only [Option.bind_some, Sum.elim_inl]
    rw [wrap64 (by omega) (by omega), dt' (by omega)]
    unfold lastF
    rw [show l.length = t.length by omega]
    rfl
theorem rtree_v {t : List Nd} (hn : ∀ n ∈ t, NodeOk2 n) : ref14_Good.V t = some (treeD t) := by
  refine ref14_Good.v _ ?_
  unfold ref14_Good.b treeD
  by_cases h1 : (t.length : Int) < 1
  · rw [dt' h1]; rfl
  by_cases h2 : (t.length : Int) > 2000
  · rw [df' h1, dt' h2]; rfl
  rw [df' h1, df' h2]
  simp only [cond_false, Bool.not_false, Bool.true_and]
  have := rbegin_l t (by omega) hn t.length [] nilOk (by simp) (by simp)
  rw [List.length_nil, List.drop_zero] at this
  have hb : ref14_Begin.V t = match runT t [] with | some l => some (Sum.inr l) | none => some (Sum.inl ()) := by
    cases hr : runT t [] with
    | none =>
      rw [hr] at this
      refine ref14_Begin.v _ ?_
      unfold ref14_Begin.b
      rw [show ref14_Begin.V0 t [] (0 : Int) = _ from this]
      rfl
    | some l =>
      rw [hr] at this
      refine ref14_Begin.v _ ?_
      unfold ref14_Begin.b
      rw [show ref14_Begin.V0 t [] (0 : Int) = _ from this]
      rfl
  rw [hb]
  cases hr : runT t [] with
  | none =>
    simp only [Option.bind_some, Sum.elim_inl]
    rw [show ((0 : Int) == (t.length : Int)) = false by simp; omega]
    rfl
  | some l =>
    have hl := runT_len t [] l hr
    rw [List.length_nil] at hl
    simp only [Option.bind_some, Sum.elim_inr]
    rw [show ((l.length : Int) == (t.length : Int)) = true by simp; omega, wrap64 (by omega) (by omega), dt' (by omega)]
    unfold lastF
    rw [show l.length = t.length by omega]
    rfl
end Go.Proofs.YtlfcdmibknmjeaaDoor.E
