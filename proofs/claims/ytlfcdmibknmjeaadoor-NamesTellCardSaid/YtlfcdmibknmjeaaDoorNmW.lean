import Derived.Test.YtlfcdmibknmjeaaDoorNmV
namespace Go.Proofs.YtlfcdmibknmjeaaDoor.E
open Go Go.Proofs.YtlfcdmibknmjeaaDoor.Ev
set_option linter.unusedSimpArgs false
/-! ### NamesTell: a tree is the reference's -/
abbrev Nd := api_Node.denote
def leafB (n : Nd) : Bool := (n.2.1 == (0 : Int)) && ((n.2.2.1 == (0 : Int)) && (n.2.2.2.1 == (0 : Int)))
def bareN (n : Nd) : Bool := strEq n.2.2.2.2.1 (ByteArray.mk #[]) && strEq n.2.2.2.2.2.1 (ByteArray.mk #[])
def lastF (l : List Int) : Int := rdL (0 : Int) l ((l.length : Int) - 1)
def overB (n : Nd) (l : List Int) : Bool := decide ((l.length : Int) > 0) && ((n.2.1 == (l.length : Int) - 1) && ((n.2.2.1 == (0 : Int)) && bareN n))
def twoB (n : Nd) (l : List Int) : Bool := decide ((l.length : Int) > 1) && ((n.2.2.1 == (l.length : Int) - 1) && (decide (lastF l > 0) && ((n.2.1 == lastF l - 1) && ((n.2.2.2.1 == (0 : Int)) && bareN n))))
def twoK (k : Int) : Bool := (k == (3 : Int)) || ((k == (4 : Int)) || ((k == (5 : Int)) || (k == (6 : Int))))
/-- where what is beneath a node begins -/
def stepT (n : Nd) (l : List Int) : Option Int :=
  bif n.1 == (1 : Int) then (bif leafB n && (litB n.2.2.2.2.1 && unitsB n.2.2.2.2.2.1) then some (l.length : Int) else none) else
  bif n.1 == (2 : Int) then (bif leafB n && (nameB n.2.2.2.2.1 && strEq n.2.2.2.2.2.1 (ByteArray.mk #[])) then some (l.length : Int) else none) else
  bif n.1 == (7 : Int) then (bif (n.2.2.2.1 == (0 : Int)) && overB n l then some (lastF l) else none) else
  bif n.1 == (8 : Int) then (bif decide (n.2.2.2.1 ≥ -64) && (decide (n.2.2.2.1 ≤ 64) && overB n l) then some (lastF l) else none) else
  bif twoK n.1 then (bif twoB n l then some (rdL (0 : Int) l n.2.1) else none) else none
def NodeOk2 (n : Nd) : Prop := n.2.2.2.2.1.size ≤ maxLen ∧ n.2.2.2.2.2.1.size ≤ maxLen
theorem isN_v {s : ByteArray} (hs : s.size ≤ maxLen) : lex_IsName.V s = some (nameB s) := lim_iff.2 (isN_is hs)
theorem rname_v {s : ByteArray} (hs : s.size ≤ maxLen) : ref13_IsName.V s = some (nameB s) := lim_iff.2 (rname_is hs)
theorem units_v {s : ByteArray} (hs : s.size ≤ maxLen) : ref14_Units.V s = some (unitsB s) := lim_iff.2 (units_is hs)
theorem face_is (x y : tree_face.denote) : eqv tree_face x y = ((@BEq.beq Int _ x.1 y.1) && ((@BEq.beq Int _ x.2.1 y.2.1) && (strEq x.2.2.1 y.2.2.1 && strEq x.2.2.2.1 y.2.2.2.1))) := by
  show ((@BEq.beq Int _ x.1 y.1) && ((@BEq.beq Int _ x.2.1 y.2.1) && (strEq x.2.2.1 y.2.2.1 && (strEq x.2.2.2.1 y.2.2.2.1 && true)))) = _
  rw [Bool.and_true]
theorem lastF_ok {l : List Int} (h : FromOk l) (h0 : 0 < l.length) : 0 ≤ lastF l ∧ lastF l ≤ (l.length : Int) - 1 := h.at (by omega) (by omega)
theorem begin_v' (K A B N : Int) (T U : ByteArray) (P : Int) (l : List Int) (hl : FromOk l) (hT : T.size ≤ maxLen) : ∃ y, tree_begin.V (K, A, B, N, T, U, P, ()) l = some y ∧ stepT (K, A, B, N, T, U, P, ()) l = bif y.2 then some y.1 else none := by
  have hlen := hl.1
  suffices h : ∃ y, tree_begin.b literal_Good.V lex_IsName.V (K, A, B, N, T, U, P, ()) l = some y ∧ stepT (K, A, B, N, T, U, P, ()) l = bif y.2 then some y.1 else none from by
    obtain ⟨y, h1, h2⟩ := h
    exact ⟨y, tree_begin.v _ _ h1, h2⟩
  have g1 := lit_v hT
  have g2 := text_is U
  have g3 := isN_v hT
  have w1 : IntKind.wrap .i64 ((l.length : Int) - 1) = (l.length : Int) - 1 := wrap64 (by omega) (by omega)
  unfold tree_begin.b stepT
  simp only [tree_faced.f, Option.bind_some, face_is, BEq.rfl, Bool.true_and]
  have z : (Ty.zero .str : ByteArray) = ByteArray.mk #[] := rfl
  by_cases k1 : K = 1
  · subst k1
    simp only [face_is, BEq.rfl, cond_true, sref, Bool.and_true, Bool.true_and]
    unfold leafB
    cases (N == (0 : Int)) <;> cases (A == (0 : Int)) <;> cases (B == (0 : Int)) <;> simp only [cond_true, cond_false, Option.bind_some, g1, g2] <;> cases litB T <;> cases unitsB U <;> (refine ⟨_, rfl, ?_⟩; rfl)
  by_cases k2 : K = 2
  · subst k2
    simp only [show ((2 : Int) == 1) = false from rfl, face_is, BEq.rfl, cond_true, cond_false, sref, Bool.true_and, z]
    unfold leafB
    cases (N == (0 : Int)) <;> cases (A == (0 : Int)) <;> cases (B == (0 : Int)) <;> cases strEq U (ByteArray.mk #[]) <;> simp only [cond_true, cond_false, Option.bind_some, g3, Bool.and_true, Bool.and_false] <;> cases nameB T <;> (refine ⟨_, rfl, ?_⟩; rfl)
  have lf : ∀ {A' : Int}, A' = (l.length : Int) - 1 → rdL (0 : Int) l A' = lastF l := fun e => by rw [e]; rfl
  by_cases k7 : K = 7
  · subst k7
    simp only [show ((7 : Int) == 1) = false from rfl, show ((7 : Int) == 2) = false from rfl, show ((7 : Int) == 8) = false from rfl, BEq.rfl, cond_true, cond_false, w1, z, Bool.true_and]
    by_cases h0 : (l.length : Int) < 1
    · simp only [dt' h0, cond_true, Option.bind_some]
      refine ⟨_, rfl, ?_⟩
      unfold overB
      rw [df' (show ¬ (l.length : Int) > 0 by omega)]
      cases (N == (0 : Int)) <;> rfl
    · simp only [df' h0, cond_false, bne]
      unfold overB bareN
      rw [dt' (show (l.length : Int) > 0 by omega)]
      by_cases hA : A = (l.length : Int) - 1
      · have hA' : (A == (l.length : Int) - 1) = true := by simpa using hA
        have hg : decide (0 ≤ A ∧ A < (l.length : Int)) = true := by simp; omega
        rw [hA']
        by_cases hN : N = 0
        · have e1 : decide (mnI N 0 ≥ -(64 : Int)) = true := by subst hN; rfl
          have e2 : decide (N ≤ (64 : Int)) = true := by subst hN; rfl
          rw [show (N == (0 : Int)) = true by simpa using hN]
          cases (B == (0 : Int)) <;> simp only [show ((7 : Int) == 8) = false from rfl, face_is, z, BEq.rfl, Bool.true_and, Bool.not_true, Bool.not_false, cond_true, cond_false, Option.bind_some] <;> cases strEq T (ByteArray.mk #[]) <;> cases strEq U (ByteArray.mk #[]) <;> simp only [cond_true, cond_false, Option.bind_some, Bool.and_true, Bool.and_false, show (N == (0 : Int)) = true by simpa using hN, hg, e1, e2, lf hA] <;> (refine ⟨_, rfl, ?_⟩; rfl)
        · rw [show (N == (0 : Int)) = false by simpa using hN]
          cases (B == (0 : Int)) <;> simp only [show ((7 : Int) == 8) = false from rfl, face_is, z, BEq.rfl, Bool.true_and, Bool.not_true, Bool.not_false, cond_true, cond_false, Option.bind_some] <;> cases strEq T (ByteArray.mk #[]) <;> cases strEq U (ByteArray.mk #[]) <;> simp only [cond_true, cond_false, Option.bind_some, Bool.and_true, Bool.and_false, show (N == (0 : Int)) = false by simpa using hN, hg, lf hA] <;> (refine ⟨_, rfl, ?_⟩; rfl)
      · have hA' : (A == (l.length : Int) - 1) = false := by simpa using hA
        rw [hA']
        refine ⟨_, rfl, ?_⟩
        cases (N == (0 : Int)) <;> rfl
  by_cases k8 : K = 8
  · subst k8
    simp only [show ((8 : Int) == 1) = false from rfl, show ((8 : Int) == 2) = false from rfl, show ((8 : Int) == 7) = false from rfl, BEq.rfl, cond_true, cond_false, w1, z, Bool.true_and]
    by_cases h0 : (l.length : Int) < 1
    · simp only [dt' h0, cond_true, Option.bind_some]
      refine ⟨_, rfl, ?_⟩
      unfold overB
      rw [df' (show ¬ (l.length : Int) > 0 by omega)]
      cases decide (N ≥ -64) <;> cases decide (N ≤ 64) <;> rfl
    · simp only [df' h0, cond_false, bne]
      unfold overB bareN
      rw [dt' (show (l.length : Int) > 0 by omega)]
      by_cases hA : A = (l.length : Int) - 1
      · have hA' : (A == (l.length : Int) - 1) = true := by simpa using hA
        have hg : decide (0 ≤ A ∧ A < (l.length : Int)) = true := by simp; omega
        have e1 : decide (mnI N 0 ≥ -(64 : Int)) = decide (N ≥ -64) := decide_eq_decide.2 (by unfold mnI; split <;> omega)
        rw [hA']
        cases (B == (0 : Int)) <;> simp only [face_is, z, BEq.rfl, Bool.true_and, Bool.not_true, Bool.not_false, cond_true, cond_false, Option.bind_some] <;> cases strEq T (ByteArray.mk #[]) <;> cases strEq U (ByteArray.mk #[]) <;> simp only [cond_true, cond_false, Option.bind_some, Bool.and_true, Bool.and_false, Bool.true_and, BEq.rfl, hg, e1, lf hA] <;> cases decide (N ≥ -64) <;> cases decide (N ≤ 64) <;> (refine ⟨_, rfl, ?_⟩; rfl)
      · have hA' : (A == (l.length : Int) - 1) = false := by simpa using hA
        rw [hA']
        refine ⟨_, rfl, ?_⟩
        cases decide (N ≥ -64) <;> cases decide (N ≤ 64) <;> rfl
  by_cases kt : K = 3 ∨ K = 4 ∨ K = 5 ∨ K = 6
  · rcases kt with rfl | rfl | rfl | rfl
    all_goals
      simp only [show ((3 : Int) == 1) = false from rfl, show ((3 : Int) == 2) = false from rfl, show ((3 : Int) == 7) = false from rfl, show ((3 : Int) == 8) = false from rfl, show ((4 : Int) == 1) = false from rfl, show ((4 : Int) == 2) = false from rfl, show ((4 : Int) == 7) = false from rfl, show ((4 : Int) == 8) = false from rfl, show ((4 : Int) == 3) = false from rfl, show ((5 : Int) == 1) = false from rfl, show ((5 : Int) == 2) = false from rfl, show ((5 : Int) == 7) = false from rfl, show ((5 : Int) == 8) = false from rfl, show ((5 : Int) == 3) = false from rfl, show ((5 : Int) == 4) = false from rfl, show ((6 : Int) == 1) = false from rfl, show ((6 : Int) == 2) = false from rfl, show ((6 : Int) == 7) = false from rfl, show ((6 : Int) == 8) = false from rfl, show ((6 : Int) == 3) = false from rfl, show ((6 : Int) == 4) = false from rfl, show ((6 : Int) == 5) = false from rfl, show twoK 3 = true from rfl, show twoK 4 = true from rfl, show twoK 5 = true from rfl, show twoK 6 = true from rfl, BEq.rfl, cond_true, cond_false, w1, z, bne]
      unfold twoB bareN
      by_cases h0 : (l.length : Int) < 2
      · rw [df' (show ¬ (l.length : Int) > 1 by omega), dt' h0]
        (refine ⟨_, rfl, ?_⟩; rfl)
      · rw [dt' (show (l.length : Int) > 1 by omega), df' h0]
        have hf := lastF_ok hl (by omega)
        by_cases hB : B = (l.length : Int) - 1
        · have hg : decide (0 ≤ B ∧ B < (l.length : Int)) = true := by simp; omega
          have w2 : IntKind.wrap .i64 (lastF l - 1) = lastF l - 1 := wrap64 (by omega) (by omega)
          simp only [show (B == (l.length : Int) - 1) = true by simpa using hB, Bool.not_true, cond_true, cond_false, hg, lf hB, w2]
          by_cases hA : A = lastF l - 1
          · rw [show (A == lastF l - 1) = true by simpa using hA]
            by_cases hp : lastF l > 0
            · have hg2 : decide (0 ≤ A ∧ A < (l.length : Int)) = true := by simp; omega
              rw [dt' hp, df' (show ¬ A < 0 by omega)]
              simp only [Bool.not_true, cond_false, Option.bind_some, hg2, cond_true, Bool.true_and]
              cases (N == (0 : Int)) <;> cases strEq T (ByteArray.mk #[]) <;> cases strEq U (ByteArray.mk #[]) <;> (refine ⟨_, rfl, ?_⟩; rfl)
            · rw [df' hp, dt' (show A < 0 by omega)]
              (refine ⟨_, rfl, ?_⟩; rfl)
          · rw [show (A == lastF l - 1) = false by simpa using hA]
            refine ⟨_, rfl, ?_⟩
            cases decide (lastF l > 0) <;> rfl
        · rw [show (B == (l.length : Int) - 1) = false by simpa using hB]
          (refine ⟨_, rfl, ?_⟩; rfl)
  · have b : ∀ m : Int, K ≠ m → (K == m) = false := fun m h => by simpa using h
    have t0 : twoK K = false := by unfold twoK; rw [b 3 (by omega), b 4 (by omega), b 5 (by omega), b 6 (by omega)]; rfl
    simp only [b 1 k1, b 2 k2, b 7 k7, b 8 k8, b 3 (by omega), b 4 (by omega), b 5 (by omega), b 6 (by omega), t0, cond_false]
    (refine ⟨_, rfl, ?_⟩; rfl)
theorem begin_v (n : Nd) (l : List Int) (hl : FromOk l) (hn : NodeOk2 n) : ∃ y, tree_begin.V n l = some y ∧ stepT n l = bif y.2 then some y.1 else none := by
  obtain ⟨K, A, B, N, T, U, P, ⟨⟩⟩ := n
  exact begin_v' K A B N T U P l hl hn.1
end Go.Proofs.YtlfcdmibknmjeaaDoor.E
