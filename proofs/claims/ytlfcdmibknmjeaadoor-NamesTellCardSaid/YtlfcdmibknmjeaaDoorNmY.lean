import Derived.Test.YtlfcdmibknmjeaaDoorNmX
namespace Go.Proofs.YtlfcdmibknmjeaaDoor.E
open Go Go.Proofs.YtlfcdmibknmjeaaDoor.Ev
set_option linter.unusedSimpArgs false
/-! ### NamesTell: a declaration is the reference's -/
def slash (r : ByteArray) : Int := Lib.indexByte r.data.toList 47
def numT (r : ByteArray) : Bool := bif decide (slash r ≥ 0) then litB (r.extract 0 (slash r).toNat) && litB (r.extract (slash r + 1).toNat r.size) else litB r
def bareS (s : ByteArray) : ByteArray := bif hdAt s 0 45 then s.extract 1 s.size else s
theorem bareS_le (s : ByteArray) : (bareS s).size ≤ s.size := by
  unfold bareS
  cases hdAt s 0 45 with
  | false => exact Nat.le_refl _
  | true => show (s.extract 1 s.size).size ≤ _; rw [ext_size]; omega
theorem slash_lt {r : ByteArray} (h : slash r ≥ 0) : slash r < r.size ∧ r.data.toList[(slash r).toNat]? = some 47 ∧ ∀ k : Nat, (k : Int) < slash r → r.data.toList[k]? ≠ some 47 := by
  obtain ⟨o, ho⟩ := Int.eq_ofNat_of_zero_le h
  obtain ⟨h1, h2⟩ := Lib.indexByte_some ho
  have h3 := (List.getElem?_eq_some_iff.1 h1).1
  have e : r.data.toList.length = r.size := by simp
  refine ⟨by omega, by rw [ho]; exact h1, fun k hk => h2 k (by omega)⟩
theorem cut_v (r : ByteArray) (hr : r.size ≤ maxLen) : strings_Cut.f r (ByteArray.mk #[47]) = some (bif decide (slash r ≥ 0) then (r.extract 0 (slash r).toNat, r.extract (slash r + 1).toNat r.size, true) else (r, ByteArray.mk #[], false)) := by
  unfold maxLen at hr
  unfold strings_Cut.f internal_stringslite_Cut.f
  rw [show internal_stringslite_Index.f r (ByteArray.mk #[47]) = some (slash r) from rfl, Option.bind_some, show (ByteArray.mk #[47]).size = 1 from rfl]
  by_cases h : slash r ≥ 0
  · have h1 := (slash_lt h).1
    rw [dt' h, dt' (show 0 ≤ slash r ∧ slash r ≤ (r.size : Int) by omega)]
    rw [show IntKind.wrap .i64 (slash r + ((1 : Nat) : Int)) = slash r + 1 from wrap64 (by omega) (by omega)]
    simp only [cond_true]
    rw [dt' (show 0 ≤ slash r + 1 ∧ slash r + 1 ≤ (r.size : Int) by omega)]
    rfl
  · rw [df' h]; rfl
theorem num_v {s : ByteArray} (hs : s.size ≤ maxLen) : write_num.V s = some (numT (bareS s)) := by
  refine write_num.v _ ?_
  unfold write_num.b
  rw [cp_is s 45 45 rfl, Option.bind_some, show (bif hdAt s 0 45 then (s.extract 1 s.size, true) else (s, false)).1 = bareS s from by unfold bareS; cases hdAt s 0 45 <;> rfl]
  have hb := bareS_le s
  generalize bareS s = r at hb ⊢
  rw [cut_v r (by omega), Option.bind_some]
  unfold numT
  cases hc : decide (slash r ≥ 0) with
  | false =>
    simp only [cond_false]
    rw [lit_v (by omega)]
    cases litB r <;> rfl
  | true =>
    have h := (slash_lt (by simpa using hc)).1
    simp only [cond_true]
    rw [lit_v (by simp; omega), lit_v (by rw [ext_size]; omega)]
    cases litB (r.extract 0 (slash r).toNat) <;> rfl
theorem at_byte {r : ByteArray} {i : Int} (h0 : 0 ≤ i) (h : i < r.size) : (bAt r i == (47 : Int)) = true ↔ r.data.toList[i.toNat]? = some 47 := by
  obtain ⟨c, e1, e2⟩ := bAt_drop r i h0 h
  have e : r.data.toList[i.toNat]? = some c := by
    have := congrArg (·[0]?) e1
    simpa [List.getElem?_drop] using this
  rw [e2, e]
  have := byte_eq c 47 (by omega)
  rw [show ((47 : Nat) : Int) = (47 : Int) from rfl] at this
  rw [this]
  simp
theorem rnum_l {r : ByteArray} (hr : r.size ≤ maxLen) : ∀ (m : Nat) (i : Int), 0 ≤ i → (r.size : Int) - i ≤ m → (∀ k : Nat, (k : Int) < i → r.data.toList[k]? ≠ some 47) →
    ref16_Num.V0 r i = some (bif decide (slash r ≥ 0) then Sum.inr (litB (r.extract 0 (slash r).toNat) && litB (r.extract (slash r + 1).toNat r.size)) else Sum.inl r) := by
  have hm : r.size ≤ 9223372036854775807 := by unfold maxLen at hr; omega
  have past : ∀ i : Int, (r.size : Int) ≤ i → (∀ k : Nat, (k : Int) < i → r.data.toList[k]? ≠ some 47) → decide (slash r ≥ 0) = false := fun i hi hno => df' fun h => by
    obtain ⟨h1, h2, _⟩ := slash_lt h
    exact hno _ (by omega) h2
  intro m
  induction m with
  | zero =>
    intro i h0 h2 hno
    refine ref16_Num.v0 _ _ ?_
    unfold ref16_Num.b0
    rw [df' (by omega), past i (by omega) hno]
    rfl
  | succ m ih =>
    intro i h0 h2 hno
    refine ref16_Num.v0 _ _ ?_
    unfold ref16_Num.b0
    by_cases hi : i < (r.size : Int)
    · rw [dt' hi, dt' (show 0 ≤ i ∧ i < (r.size : Int) by omega)]
      simp only [cond_true]
      cases hc : (bAt r i == (47 : Int)) with
      | true =>
        have hb := (at_byte h0 hi).1 hc
        have hs : slash r = i := by
          by_cases h : slash r ≥ 0
          · obtain ⟨k1, k2, k3⟩ := slash_lt h
            have a1 : ¬ i < slash r := fun hl => k3 i.toNat (by omega) hb
            have a2 : ¬ slash r < i := fun hl => hno (slash r).toNat (by omega) k2
            omega
          · have := Lib.indexByte_ge r.data.toList 47
            have hn : Lib.indexByte r.data.toList 47 = -1 := by unfold slash at h; omega
            exact absurd hb (Lib.indexByte_none hn _)
        rw [hs, dt' (show 0 ≤ i ∧ i ≤ (r.size : Int) by omega), dt' (show i ≥ 0 from h0)]
        simp only [cond_true]
        rw [rlit_v (by simp; omega), Option.bind_some, wrap64 (n := i + 1) (by omega) (by omega), dt' (show 0 ≤ i + 1 ∧ i + 1 ≤ (r.size : Int) by omega), rlit_v (by rw [ext_size]; omega)]
        cases litB (r.extract 0 i.toNat) <;> rfl
      | false =>
        simp only [cond_false]
        rw [wrap64 (n := i + 1) (by omega) (by omega)]
        refine ih _ (by omega) (by omega) fun k hk hb => ?_
        by_cases hki : (k : Int) < i
        · exact hno k hki hb
        · have : k = i.toNat := by omega
          rw [this] at hb
          rw [(at_byte h0 hi).2 hb] at hc
          cases hc
    · rw [df' hi, past i (by omega) hno]
      rfl
theorem rnum_v {s : ByteArray} (hs : s.size ≤ maxLen) : ref16_Num.V s = some (numT (bareS s)) := by
  refine ref16_Num.v _ ?_
  unfold ref16_Num.b
  rw [empty_is]
  have e : (bif decide ((s.size : Int) ≥ 1) then (bif decide ((0 : Int) ≤ 0 ∧ (0 : Int) < (s.size : Int)) then (bif bAt s 0 == (45 : Int) then (bif decide ((0 : Int) ≤ 1 ∧ (1 : Int) ≤ (s.size : Int)) then some (s.extract (Int.toNat 1) s.size) else none) else some s) else none) else some s) = some (bareS s) := by
    unfold bareS hdAt
    by_cases h : (s.size : Int) ≥ 1
    · rw [dt' h, dt' (show (0 : Int) ≤ 0 ∧ (0 : Int) < (s.size : Int) by omega), dt' (show (0 : Int) ≤ 1 ∧ (1 : Int) ≤ (s.size : Int) by omega), dt' (show (0 : Int) < (s.size : Int) by omega)]
      cases bAt s 0 == (45 : Int) <;> rfl
    · rw [df' h, df' (show ¬ (0 : Int) < (s.size : Int) by omega)]; rfl
  rw [e, Option.bind_some]
  have hb := bareS_le s
  generalize bareS s = r at hb ⊢
  rw [rnum_l (by omega) r.size 0 (by omega) (by omega) (fun k hk => by omega), Option.bind_some]
  unfold numT
  cases decide (slash r ≥ 0) with
  | true => rfl
  | false =>
    simp only [cond_false, Sum.elim_inl]
    rw [rlit_v (by omega)]
    rfl
theorem zero_lit : litB (ByteArray.mk #[48]) = true := by kernel_rfl
theorem unit_v {s : ByteArray} (hs : s.size ≤ maxLen) : write_unit.V s = some (unitsB s) := by
  have e : treeD [((1 : Int), ((0 : Int), ((0 : Int), ((0 : Int), (ByteArray.mk #[48], (s, ((0 : Int), ())))))))] = unitsB s := by
    unfold treeD runT stepT leafB
    rw [zero_lit]
    cases unitsB s <;> rfl
  have h1 := tree_v (t := [((1 : Int), ((0 : Int), ((0 : Int), ((0 : Int), (ByteArray.mk #[48], (s, ((0 : Int), ())))))))]) (fun n hn => by
    rw [List.mem_singleton] at hn
    subst hn
    exact ⟨by show (ByteArray.mk #[48]).size ≤ maxLen; decide, hs⟩)
  rw [e] at h1
  have h2 : tree_told.V [((1 : Int), ((0 : Int), ((0 : Int), ((0 : Int), (ByteArray.mk #[48], (s, ((0 : Int), ())))))))] = some (bif unitsB s then Sum.inr ([((1 : Int), ((0 : Int), ((0 : Int), ((0 : Int), (ByteArray.mk #[48], (s, ((0 : Int), ())))))))], true) else Sum.inl false) := by
    refine tree_told.v _ ?_
    unfold tree_told.b
    rw [h1]
    cases unitsB s <;> rfl
  refine write_unit.v _ ?_
  unfold write_unit.b
  have h3 : ∃ t, tree_Lit.V (ByteArray.mk #[48]) s = some (t, unitsB s) := by
    cases hu : unitsB s with
    | true =>
      rw [hu] at h2
      refine ⟨[((1 : Int), ((0 : Int), ((0 : Int), ((0 : Int), (ByteArray.mk #[48], (s, ((0 : Int), ())))))))], tree_Lit.v _ _ ?_⟩
      unfold tree_Lit.b
      rw [h2]
      rfl
    | false =>
      rw [hu] at h2
      refine ⟨[], tree_Lit.v _ _ ?_⟩
      unfold tree_Lit.b
      rw [h2]
      rfl
  obtain ⟨t, h3⟩ := h3
  rw [h3]
  rfl
/-- whether a declaration may be -/
def goodR (d : Dcl) : Bool :=
  let e := fun s => strEq s (ByteArray.mk #[])
  nameB d.2.1 && (unitsB d.2.2.2.2.2.1 && (
    bif d.1 == (1 : Int) then e d.2.2.1 && (e d.2.2.2.2.1 && ((d.2.2.2.2.2.2.2.1 == (0 : Int)) && (bareD d && (numT (bareS d.2.2.2.1) && !e d.2.2.2.2.2.1)))) else
    bif d.1 == (2 : Int) then e d.2.2.1 && ((d.2.2.2.2.2.2.2.1 == (0 : Int)) && (bareD d && (numT (bareS d.2.2.2.1) && numT (bareS d.2.2.2.2.1)))) else
    bif d.1 == (3 : Int) then e d.2.2.2.2.1 && (e d.2.2.2.2.2.1 && ((d.2.2.2.2.2.2.2.1 == (0 : Int)) && (bareD d && (numT (bareS d.2.2.2.1) && nameB d.2.2.1)))) else
    bif d.1 == (4 : Int) then e d.2.2.1 && (e d.2.2.2.1 && (e d.2.2.2.2.1 && (e d.2.2.2.2.2.1 && ((d.2.2.2.2.2.2.2.1 == (0 : Int)) && treeD d.2.2.2.2.2.2.1)))) else
    bif d.1 == (5 : Int) then e d.2.2.1 && (e d.2.2.2.1 && (e d.2.2.2.2.1 && (treeD d.2.2.2.2.2.2.1 && (decide (d.2.2.2.2.2.2.2.1 ≥ (0 : Int)) && decide (d.2.2.2.2.2.2.2.1 ≤ (60 : Int)))))) else false))
structure DeclOk2 (d : Dcl) : Prop where
  ok : DeclOk d
  unit : d.2.2.2.2.2.1.size ≤ maxLen
  tree : ∀ n ∈ d.2.2.2.2.2.2.1, NodeOk2 n
theorem wface_is (x y : write_face.denote) : eqv write_face x y = ((@BEq.beq Int _ x.1 y.1) && (strEq x.2.1 y.2.1 && (strEq x.2.2.1 y.2.2.1 && (strEq x.2.2.2.1 y.2.2.2.1 && (strEq x.2.2.2.2.1 y.2.2.2.2.1 && (strEq x.2.2.2.2.2.1 y.2.2.2.2.2.1 && @BEq.beq Int _ x.2.2.2.2.2.2.1 y.2.2.2.2.2.2.1)))))) := by
  show ((@BEq.beq Int _ x.1 y.1) && (strEq x.2.1 y.2.1 && (strEq x.2.2.1 y.2.2.1 && (strEq x.2.2.2.1 y.2.2.2.1 && (strEq x.2.2.2.2.1 y.2.2.2.2.1 && (strEq x.2.2.2.2.2.1 y.2.2.2.2.2.1 && ((@BEq.beq Int _ x.2.2.2.2.2.2.1 y.2.2.2.2.2.2.1) && true))))))) = _
  rw [Bool.and_true]
theorem wgood_v' (K : Int) (N O M V U : ByteArray) (T : List Nd) (P A : Int) (hN : N.size ≤ maxLen) (hO : O.size ≤ maxLen) (hM : M.size ≤ maxLen) (hV : V.size ≤ maxLen) (hU : U.size ≤ maxLen) (hT : ∀ n ∈ T, NodeOk2 n) :
    write_Good.V (K, N, O, M, V, U, T, P, A, ()) = some (goodR (K, N, O, M, V, U, T, P, A, ())) ∧ ref16_Good.V (K, N, O, M, V, U, T, P, A, ()) = some (goodR (K, N, O, M, V, U, T, P, A, ())) := by
  have g1 := isN_v hN
  have g2 := isN_v hO
  have g3 := unit_v hU
  have g4 := num_v hM
  have g5 := num_v hV
  have g6 := tree_v hT
  have r1 := rname_v hN
  have r2 := rname_v hO
  have r3 := units_v hU
  have r4 := rnum_v hM
  have r5 := rnum_v hV
  have r6 := rtree_v hT
  have z : (Ty.zero .str : ByteArray) = ByteArray.mk #[] := rfl
  have ee : strEq (ByteArray.mk #[]) (ByteArray.mk #[]) = true := sref _
  have e0 : ((List.length ([] : List Nd) : Nat) : Int) = 0 := rfl
  constructor
  · refine write_Good.v _ ?_
    unfold write_Good.b goodR bareD
    simp only [g1, g3, Option.bind_some]
    cases nameB N with
    | false => rfl
    | true => cases unitsB U with
      | false => rfl
      | true =>
        simp only [Bool.not_true, cond_false, Bool.true_and]
        by_cases k1 : K = 1
        · subst k1
          simp only [wface_is, g4, z, sref, BEq.rfl, cond_true, Bool.true_and, Bool.and_true, Option.bind_some]
          cases strEq O (ByteArray.mk #[]) <;> cases strEq V (ByteArray.mk #[]) <;> cases (P == (0 : Int)) <;> cases ((T.length : Int) == 0) <;> cases numT (bareS M) <;> rfl
        by_cases k2 : K = 2
        · subst k2
          simp only [show ((2 : Int) == 1) = false from rfl, wface_is, g4, g5, z, sref, BEq.rfl, cond_true, cond_false, Bool.true_and, Bool.and_true, Option.bind_some]
          cases strEq O (ByteArray.mk #[]) <;> cases (P == (0 : Int)) <;> cases ((T.length : Int) == 0) <;> cases numT (bareS M) <;> rfl
        by_cases k3 : K = 3
        · subst k3
          simp only [show ((3 : Int) == 1) = false from rfl, show ((3 : Int) == 2) = false from rfl, wface_is, g4, g2, z, sref, BEq.rfl, cond_true, cond_false, Bool.true_and, Bool.and_true, Option.bind_some]
          cases strEq V (ByteArray.mk #[]) <;> cases strEq U (ByteArray.mk #[]) <;> cases (P == (0 : Int)) <;> cases ((T.length : Int) == 0) <;> cases numT (bareS M) <;> rfl
        by_cases k4 : K = 4
        · subst k4
          simp only [show ((4 : Int) == 1) = false from rfl, show ((4 : Int) == 2) = false from rfl, show ((4 : Int) == 3) = false from rfl, wface_is, g6, z, sref, BEq.rfl, cond_true, cond_false, Bool.true_and, Bool.and_true, Option.bind_some]
          cases strEq O (ByteArray.mk #[]) <;> cases strEq M (ByteArray.mk #[]) <;> cases strEq V (ByteArray.mk #[]) <;> cases strEq U (ByteArray.mk #[]) <;> cases (P == (0 : Int)) <;> rfl
        by_cases k5 : K = 5
        · subst k5
          simp only [show ((5 : Int) == 1) = false from rfl, show ((5 : Int) == 2) = false from rfl, show ((5 : Int) == 3) = false from rfl, show ((5 : Int) == 4) = false from rfl, wface_is, g6, z, sref, BEq.rfl, cond_true, cond_false, Bool.true_and, Bool.and_true, Option.bind_some]
          cases strEq O (ByteArray.mk #[]) <;> cases strEq M (ByteArray.mk #[]) <;> cases strEq V (ByteArray.mk #[]) <;> cases treeD T <;> cases decide (P ≥ 0) <;> rfl
        · have b : ∀ m : Int, K ≠ m → (K == m) = false := fun m h => by simpa using h
          simp only [b 1 k1, b 2 k2, b 3 k3, b 4 k4, b 5 k5, cond_false]
  · refine ref16_Good.v _ ?_
    unfold ref16_Good.b goodR bareD
    simp only [r1, r3, Option.bind_some]
    cases nameB N with
    | false => rfl
    | true => cases unitsB U with
      | false => rfl
      | true =>
        simp only [Bool.not_true, cond_false, Bool.true_and]
        by_cases k1 : K = 1
        · subst k1
          simp only [r4, BEq.rfl, cond_true, Option.bind_some]
          cases numT (bareS M) with
          | false => simp only [Bool.false_and, Bool.and_false]; rfl
          | true => cases strEq U (ByteArray.mk #[]) with
            | true => simp only [Bool.not_true, Bool.and_false]; rfl
            | false =>
              simp only [Bool.not_true, Bool.not_false, cond_false, Option.bind_some, Sum.elim_inl, ee, cond_true, Bool.true_and, Bool.and_true]
              cases strEq O (ByteArray.mk #[]) <;> cases strEq V (ByteArray.mk #[]) <;> cases (P == (0 : Int)) <;> cases ((T.length : Int) == 0) <;> rfl
        by_cases k2 : K = 2
        · subst k2
          simp only [show ((2 : Int) == 1) = false from rfl, r4, r5, BEq.rfl, cond_true, cond_false, Option.bind_some]
          cases numT (bareS M) with
          | false => simp only [Bool.false_and, Bool.and_false]; rfl
          | true => cases numT (bareS V) with
            | false => simp only [Bool.and_false]; rfl
            | true =>
              simp only [Bool.not_true, cond_false, Option.bind_some, Sum.elim_inl, ee, cond_true, Bool.true_and, Bool.and_true]
              cases strEq O (ByteArray.mk #[]) <;> cases (P == (0 : Int)) <;> cases ((T.length : Int) == 0) <;> rfl
        by_cases k3 : K = 3
        · subst k3
          simp only [show ((3 : Int) == 1) = false from rfl, show ((3 : Int) == 2) = false from rfl, r4, r2, BEq.rfl, cond_true, cond_false, Option.bind_some]
          cases numT (bareS M) with
          | false => simp only [Bool.false_and, Bool.and_false]; rfl
          | true => cases nameB O with
            | false => simp only [Bool.and_false]; rfl
            | true =>
              simp only [Bool.not_true, cond_false, Option.bind_some, Sum.elim_inl, ee, cond_true, Bool.true_and, Bool.and_true]
              cases strEq V (ByteArray.mk #[]) <;> cases strEq U (ByteArray.mk #[]) <;> cases (P == (0 : Int)) <;> cases ((T.length : Int) == 0) <;> rfl
        by_cases k4 : K = 4
        · subst k4
          simp only [show ((4 : Int) == 1) = false from rfl, show ((4 : Int) == 2) = false from rfl, show ((4 : Int) == 3) = false from rfl, r6, BEq.rfl, cond_true, cond_false, Option.bind_some]
          cases treeD T with
          | false => simp only [Bool.and_false]; rfl
          | true =>
            simp only [Bool.not_true, cond_false, Option.bind_some, Sum.elim_inl, ee, cond_true, Bool.true_and, Bool.and_true]
            cases strEq O (ByteArray.mk #[]) <;> cases strEq M (ByteArray.mk #[]) <;> cases strEq V (ByteArray.mk #[]) <;> cases strEq U (ByteArray.mk #[]) <;> cases (P == (0 : Int)) <;> rfl
        by_cases k5 : K = 5
        · subst k5
          simp only [show ((5 : Int) == 1) = false from rfl, show ((5 : Int) == 2) = false from rfl, show ((5 : Int) == 3) = false from rfl, show ((5 : Int) == 4) = false from rfl, r6, BEq.rfl, cond_true, cond_false, Option.bind_some]
          cases treeD T with
          | false => simp only [Bool.false_and, Bool.and_false]; rfl
          | true =>
            simp only [Bool.not_true, cond_false, Option.bind_some, Sum.elim_inl, ee, cond_true, Bool.true_and, Bool.and_true]
            by_cases p0 : P ≥ 0
            · by_cases p1 : P ≤ 60
              · simp only [dt' p0, dt' p1, df' (show ¬ P < 0 by omega), df' (show ¬ P > 60 by omega), cond_false, Option.bind_some, Sum.elim_inl, Bool.true_and, Bool.and_true, ee, cond_true]
                cases strEq O (ByteArray.mk #[]) <;> cases strEq M (ByteArray.mk #[]) <;> cases strEq V (ByteArray.mk #[]) <;> rfl
              · simp only [df' p1, df' (show ¬ P < 0 by omega), dt' (show P > 60 by omega), cond_false, cond_true, Option.bind_some, Sum.elim_inr, Bool.and_false]
            · simp only [df' p0, dt' (show P < 0 by omega), cond_true, Option.bind_some, Sum.elim_inr, Bool.false_and, Bool.and_false]
        · have b : ∀ m : Int, K ≠ m → (K == m) = false := fun m h => by simpa using h
          simp only [b 1 k1, b 2 k2, b 3 k3, b 4 k4, b 5 k5, cond_false, Option.bind_some, Sum.elim_inr]
theorem good_v {d : Dcl} (h : DeclOk2 d) : write_Good.V d = some (goodR d) ∧ ref16_Good.V d = some (goodR d) := by
  have h1 := h.ok.name
  have h2 := h.ok.other
  have h3 := h.ok.num
  have h4 := h.ok.var
  have h5 := h.unit
  have h6 := h.tree
  obtain ⟨K, N, O, M, V, U, T, P, A, ⟨⟩⟩ := d
  exact wgood_v' K N O M V U T P A h1 h2 h3 h4 h5 h6
theorem goodR_is {d : Dcl} (h : DeclOk2 d) : goodD d = goodR d := (Evw.uniq (goodD_ev h.ok) (lim_iff.1 (good_v h).1))
end Go.Proofs.YtlfcdmibknmjeaaDoor.E
