import Derived.Test.YtcajdkncohcaeaaDoorXTrP
namespace Go.Proofs.YtcajdkncohcaeaaDoor
set_option linter.unusedVariables false
set_option linter.unusedSimpArgs false
open Go.RowKit Go.Proofs.YtcajdkncohcaeaaDoorW.PrintWords Go.Proofs.YtcajdkncohcaeaaDoorW.PrintMore
open GTree (S52 k52 rd_T52)
theorem twoK_iff (k : Int) : twoK k = true ↔ 3 ≤ k ∧ k ≤ 6 := by
  unfold twoK; simp only [Bool.or_eq_true, beq_iff_eq]; omega
theorem isTwo_eq (k : Int) : isTwo k = twoK k := by
  unfold isTwo twoK; simp only [Bool.or_assoc]
theorem isOver_iff (k : Int) : isOver k = true ↔ k = 7 ∨ k = 8 := by
  unfold isOver; simp only [Bool.or_eq_true, beq_iff_eq]
inductive Step (out : List Int) (x : S52) : Int → Prop
  | leaf (h : x.f0 = 1 ∨ x.f0 = 2) : Step out x (out.length : Int)
  | over (h : x.f0 = 7 ∨ x.f0 = 8) (h0 : 0 < out.length) (h1 : x.f1 = (out.length : Int) - 1) : Step out x (rd out x.f1)
  | two (h : 3 ≤ x.f0 ∧ x.f0 ≤ 6) (h1 : 1 < out.length) (h2 : x.f2 = (out.length : Int) - 1) (h3 : 0 < rd out x.f2) (h4 : x.f1 = rd out x.f2 - 1) : Step out x (rd out x.f1)
theorem step_of {out : List Int} {x : S52} {b : Int} (h : refStep out x = some b) : Step out x b := by
  unfold refStep at h
  split at h
  · next h1 =>
    obtain rfl := Option.some.inj h
    unfold litB at h1
    simp only [Bool.and_eq_true, beq_iff_eq] at h1
    exact .leaf (.inl h1.1)
  · split at h
    · next h1 =>
      obtain rfl := Option.some.inj h
      unfold refB at h1
      simp only [Bool.and_eq_true, beq_iff_eq] at h1
      exact .leaf (.inr h1.1)
    · split at h
      · next h1 =>
        obtain rfl := Option.some.inj h
        unfold overB at h1
        simp only [Bool.and_eq_true, Bool.or_eq_true, beq_iff_eq, decide_eq_true_eq] at h1
        obtain ⟨p, q, r, _⟩ := h1
        rw [← r]
        exact .over (by omega) (by omega) r
      · split at h
        · next h1 =>
          obtain rfl := Option.some.inj h
          unfold twoB at h1
          simp only [Bool.and_eq_true, beq_iff_eq, decide_eq_true_eq] at h1
          obtain ⟨p, q, r, s, t, _⟩ := h1
          rw [← r] at s t
          exact .two ((twoK_iff _).1 p) (by omega) r s t
        · cases h
theorem fromOk_rd {out : List Int} (hf : fromOk out) {i : Int} (h0 : 0 ≤ i) (h1 : i < (out.length : Int)) : 0 ≤ rd out i ∧ rd out i ≤ i := by
  have := hf i.toNat (by omega)
  rwa [show ((i.toNat : Nat) : Int) = i by omega] at this
theorem step_range {out : List Int} {x : S52} {b : Int} (hf : fromOk out) (h : Step out x b) : 0 ≤ b ∧ b ≤ (out.length : Int) := by
  cases h with
  | leaf h => omega
  | over h h0 h1 => have := fromOk_rd hf (i := x.f1) (by omega) (by omega); omega
  | two h h1 h2 h3 h4 =>
    have a := fromOk_rd hf (i := x.f2) (by omega) (by omega)
    have := fromOk_rd hf (i := x.f1) (by omega) (by omega); omega
theorem step_kids {out : List Int} {x : S52} {b : Int} (hf : fromOk out) (h : Step out x b) : (x.f0 = 1 ∨ x.f0 = 2) ∨ ((x.f0 = 7 ∨ x.f0 = 8) ∧ 0 ≤ x.f1 ∧ x.f1 < (out.length : Int)) ∨ ((3 ≤ x.f0 ∧ x.f0 ≤ 6) ∧ 0 ≤ x.f1 ∧ x.f1 < (out.length : Int) ∧ 0 ≤ x.f2 ∧ x.f2 < (out.length : Int)) := by
  cases h with
  | leaf h => exact .inl h
  | over h h0 h1 => exact .inr (.inl ⟨h, by omega, by omega⟩)
  | two h h1 h2 h3 h4 =>
    have a := fromOk_rd hf (i := x.f2) (by omega) (by omega)
    exact .inr (.inr ⟨h, by omega, by omega, by omega, by omega⟩)
/-- all of l is taken in -/
def runs (l : List S52) (out : List Int) : Prop := (refBegin l out).length = out.length + l.length
theorem run_cons {x : S52} {l : List S52} {out : List Int} (h : runs (x :: l) out) : ∃ b, refStep out x = some b ∧ runs l (out ++ [b]) ∧ refBegin (x :: l) out = refBegin l (out ++ [b]) := by
  unfold runs at h ⊢
  rw [refBegin_cons] at h ⊢
  cases hr : refStep out x with
  | none => rw [hr] at h; simp at h
  | some b =>
    rw [hr] at h
    exact ⟨b, rfl, by rw [h]; simp; omega, rfl⟩
theorem run_append : ∀ {l m : List S52} {out : List Int}, runs l out → refBegin (l ++ m) out = refBegin m (refBegin l out)
  | [], _, _, _ => rfl
  | x :: l, m, out, h => by
    obtain ⟨b, h1, h2, h3⟩ := run_cons h
    rw [h3, ← run_append h2, List.cons_append, refBegin_cons, h1]
theorem goodT_iff (L : List S52) : goodT L = true ↔ 1 ≤ L.length ∧ L.length ≤ 2000 ∧ runs L [] ∧ rd (refBegin L []) ((L.length : Int) - 1) = 0 := by
  unfold goodT goodBg runs
  simp only [Bool.and_eq_true, decide_eq_true_eq, beq_iff_eq, List.length_nil, Nat.zero_add]
theorem fromOk_nil : fromOk [] := fun i hi => by simp at hi
theorem rd_map (d : Int) (out1 out : List Int) (i : Int) (h0 : 0 ≤ i) (h1 : i < (out.length : Int)) : rd (out1 ++ out.map (· + d)) (i + (out1.length : Int)) = rd out i + d := by
  unfold rd
  rw [show (i + (out1.length : Int)).toNat = out1.length + i.toNat by omega, List.getD_eq_getElem?_getD, List.getElem?_append_right (by omega), Nat.add_sub_cancel_left, List.getElem?_map, List.getD_eq_getElem?_getD, List.getElem?_eq_getElem (by omega : i.toNat < out.length)]
  rfl
theorem rd_app (D1 ds : List Int) (i : Int) (h0 : 0 ≤ i) : rd (D1 ++ ds) (i + (D1.length : Int)) = rd ds i := by
  unfold rd
  rw [show (i + (D1.length : Int)).toNat = D1.length + i.toNat by omega, List.getD_eq_getElem?_getD, List.getElem?_append_right (by omega), Nat.add_sub_cancel_left, List.getD_eq_getElem?_getD]
theorem rd_left (D1 ds : List Int) (i : Int) (h0 : 0 ≤ i) (h1 : i < (D1.length : Int)) : rd (D1 ++ ds) i = rd D1 i := by
  unfold rd
  rw [List.getD_eq_getElem?_getD, List.getElem?_append_left (by omega), List.getD_eq_getElem?_getD]
theorem wrapI {i : Int} (h0 : -9223372036854775808 ≤ i) (h : i < 9223372036854775808) : IntKind.i64.wrap i = i := by rw [IntKind.wrap_i64]; omega
/-- a node, moved -/
theorem step_shift {out out1 : List Int} {x : S52} {b : Int} (hf : fromOk out) (hl : out.length + out1.length < 1000000) (h : refStep out x = some b) :
    refStep (out1 ++ out.map (· + (out1.length : Int))) (shS (out1.length : Int) x) = some (b + (out1.length : Int)) := by
  have hst := step_of h
  have hk := step_kids hf hst
  obtain ⟨d, hd⟩ : ∃ d, (out1.length : Int) = d := ⟨_, rfl⟩
  have hlen : ((out1 ++ out.map (· + d)).length : Int) = (out.length : Int) + d := by rw [List.length_append, List.length_map]; omega
  rw [hd]
  unfold refStep
  rw [hlen]
  unfold refStep at h
  rcases hk with hk | ⟨hk, k1, k2⟩ | ⟨hk, k1, k2, k3, k4⟩
  · have e2 : isTwo x.f0 = false := by rw [isTwo_eq]; exact Bool.eq_false_iff.2 (fun h => by have := (twoK_iff _).1 h; omega)
    have e3 : isOver x.f0 = false := Bool.eq_false_iff.2 (fun h => by have := (isOver_iff _).1 h; omega)
    have es : shS d x = x := by unfold shS; rw [if_neg (by rw [e2]; decide), if_neg (by rw [e3]; decide)]
    have eb : b = (out.length : Int) := by cases hst with
      | leaf _ => rfl
      | over h _ _ => omega
      | two h _ _ _ _ => omega
    rw [es]
    have eo : ∀ n, overB n x = false := fun n => by
      unfold overB
      rw [show (x.f0 == 7) = false from beq_eq_false_iff_ne.2 (by omega), show (x.f0 == 8) = false from beq_eq_false_iff_ne.2 (by omega)]; rfl
    have et : ∀ n e, twoB n e x = false := fun n e => by
      unfold twoB
      rw [← isTwo_eq, e2]; rfl
    rw [eo, et] at h ⊢
    split at h
    · next h1 => rw [if_pos h1, eb]
    · split at h
      · next h1 h2 => rw [if_neg h1, if_pos h2, eb]
      · simp at h
  · have e2 : isTwo x.f0 = false := by rw [isTwo_eq]; exact Bool.eq_false_iff.2 (fun h => by have := (twoK_iff _).1 h; omega)
    have e3 : isOver x.f0 = true := (isOver_iff _).2 hk
    have es : shS d x = ⟨x.f0, x.f1 + d, x.f2, x.f3, x.f4, x.f5, x.f6⟩ := by unfold shS; rw [if_neg (by rw [e2]; decide), if_pos e3, wrapI (by omega) (by omega)]
    have c1 : ∀ y : S52, y.f0 = x.f0 → litB y = false := fun y hy => by unfold litB; rw [hy, show (x.f0 == 1) = false from beq_eq_false_iff_ne.2 (by omega)]; rfl
    have c2 : ∀ y : S52, y.f0 = x.f0 → refB y = false := fun y hy => by unfold refB; rw [hy, show (x.f0 == 2) = false from beq_eq_false_iff_ne.2 (by omega)]; rfl
    have c3 : ∀ n e, twoB n e x = false := fun n e => by
      unfold twoB
      rw [← isTwo_eq, e2]; rfl
    rw [c1 x rfl, c2 x rfl, c3, if_neg (by decide), if_neg (by decide)] at h
    rw [es, c1 ⟨x.f0, x.f1 + d, x.f2, x.f3, x.f4, x.f5, x.f6⟩ rfl, c2 ⟨x.f0, x.f1 + d, x.f2, x.f3, x.f4, x.f5, x.f6⟩ rfl, if_neg (by decide), if_neg (by decide)]
    split at h
    · next h1 =>
      have h2 : overB ((out.length : Int) + d) ⟨x.f0, x.f1 + d, x.f2, x.f3, x.f4, x.f5, x.f6⟩ = true := by
        unfold overB at h1 ⊢
        simp only [Bool.and_eq_true, Bool.or_eq_true, beq_iff_eq, decide_eq_true_eq] at h1 ⊢
        obtain ⟨p, q, r, s⟩ := h1
        exact ⟨p, by omega, by omega, s⟩
      have hb := Option.some.inj h
      rw [if_pos h2, show (out.length : Int) + d - 1 = ((out.length : Int) - 1) + (out1.length : Int) by omega, rd_map d out1 out _ (by omega) (by omega), hb]
    · simp at h
  · have e2 : isTwo x.f0 = true := by rw [isTwo_eq]; exact (twoK_iff _).2 hk
    have es : shS d x = ⟨x.f0, x.f1 + d, x.f2 + d, x.f3, x.f4, x.f5, x.f6⟩ := by unfold shS; rw [if_pos e2, wrapI (by omega) (by omega), wrapI (by omega) (by omega)]
    have c1 : ∀ y : S52, y.f0 = x.f0 → litB y = false := fun y hy => by unfold litB; rw [hy, show (x.f0 == 1) = false from beq_eq_false_iff_ne.2 (by omega)]; rfl
    have c2 : ∀ y : S52, y.f0 = x.f0 → refB y = false := fun y hy => by unfold refB; rw [hy, show (x.f0 == 2) = false from beq_eq_false_iff_ne.2 (by omega)]; rfl
    have c3 : ∀ n, ∀ y : S52, y.f0 = x.f0 → overB n y = false := fun n y hy => by
      unfold overB
      rw [hy, show (x.f0 == 7) = false from beq_eq_false_iff_ne.2 (by omega), show (x.f0 == 8) = false from beq_eq_false_iff_ne.2 (by omega)]; rfl
    rw [c1 x rfl, c2 x rfl, c3 _ x rfl, if_neg (by decide), if_neg (by decide), if_neg (by decide)] at h
    rw [es, c1 ⟨x.f0, x.f1 + d, x.f2 + d, x.f3, x.f4, x.f5, x.f6⟩ rfl, c2 ⟨x.f0, x.f1 + d, x.f2 + d, x.f3, x.f4, x.f5, x.f6⟩ rfl, c3 _ ⟨x.f0, x.f1 + d, x.f2 + d, x.f3, x.f4, x.f5, x.f6⟩ rfl, if_neg (by decide), if_neg (by decide), if_neg (by decide)]
    split at h
    · next h1 =>
      have hb := Option.some.inj h
      have hr1 : rd (out1 ++ out.map (· + d)) ((out.length : Int) + d - 1) = rd out ((out.length : Int) - 1) + d := by
        rw [show (out.length : Int) + d - 1 = ((out.length : Int) - 1) + (out1.length : Int) by omega, rd_map d out1 out _ (by omega) (by omega)]
      have h2 : twoB ((out.length : Int) + d) (rd out ((out.length : Int) - 1) + d) ⟨x.f0, x.f1 + d, x.f2 + d, x.f3, x.f4, x.f5, x.f6⟩ = true := by
        unfold twoB at h1 ⊢
        simp only [Bool.and_eq_true, beq_iff_eq, decide_eq_true_eq] at h1 ⊢
        obtain ⟨p, q, r, s, t, u⟩ := h1
        exact ⟨p, by omega, by omega, by omega, by omega, u⟩
      rw [hr1, if_pos h2]
      show some (rd (out1 ++ out.map (· + d)) (x.f1 + d)) = some (b + d)
      rw [← hd, show x.f1 + (out1.length : Int) = x.f1 + (out1.length : Int) from rfl, rd_map _ out1 out _ (by omega) (by omega), hb]
    · simp at h
theorem run_shift : ∀ {l : List S52} {out out1 : List Int}, fromOk out → out1.length + out.length + l.length < 1000000 → runs l out →
    refBegin (l.map (shS (out1.length : Int))) (out1 ++ out.map (· + (out1.length : Int))) = out1 ++ (refBegin l out).map (· + (out1.length : Int))
  | [], _, _, _, _, _ => rfl
  | x :: l, out, out1, hf, hl, h => by
    rw [List.length_cons] at hl
    obtain ⟨b, h1, h2, h3⟩ := run_cons h
    have hb := step_range hf (step_of h1)
    rw [List.map_cons, refBegin_cons, step_shift hf (by omega) h1, h3]
    have := run_shift (out1 := out1) (fromOk_snoc hf hb.1 hb.2) (by rw [List.length_append, List.length_singleton]; omega) h2
    rw [← this, List.map_append, ← List.append_assoc]; rfl
def dstep (ds : List Int) (x : S52) : Int := if twoK x.f0 = true then 1 + mx (rd ds x.f1) (rd ds x.f2) else if isOver x.f0 = true then 1 + rd ds x.f1 else 1
def deepOf : List S52 → List Int → List Int
  | [], ds => ds
  | x :: l, ds => deepOf l (ds ++ [dstep ds x])
theorem deepOf_append : ∀ (l m : List S52) (ds : List Int), deepOf (l ++ m) ds = deepOf m (deepOf l ds)
  | [], _, _ => rfl
  | x :: l, m, ds => deepOf_append l m _
theorem deepOf_len : ∀ (l : List S52) (ds : List Int), (deepOf l ds).length = ds.length + l.length
  | [], _ => rfl
  | x :: l, ds => by
    rw [show deepOf (x :: l) ds = deepOf l (ds ++ [dstep ds x]) from rfl, deepOf_len]; simp; omega
def dsOk (ds : List Int) : Prop := ∀ i : Nat, i < ds.length → 1 ≤ rd ds (i : Int) ∧ rd ds (i : Int) ≤ (i : Int) + 1
theorem dsOk_nil : dsOk [] := fun i hi => by simp at hi
theorem dsOk_rd {ds : List Int} (hf : dsOk ds) {i : Int} (h0 : 0 ≤ i) (h1 : i < (ds.length : Int)) : 1 ≤ rd ds i ∧ rd ds i ≤ i + 1 := by
  have := hf i.toNat (by omega)
  rwa [show ((i.toNat : Nat) : Int) = i by omega] at this
theorem dsOk_snoc {ds : List Int} {b : Int} (h : dsOk ds) (h0 : 1 ≤ b) (h1 : b ≤ (ds.length : Int) + 1) : dsOk (ds ++ [b]) := by
  intro i hi
  rw [List.length_append, List.length_singleton] at hi
  by_cases e : i = ds.length
  · subst e; rw [rd_last]; exact ⟨h0, h1⟩
  · rw [rd_snoc ds b i (by omega)]; exact h i (by omega)
theorem dstep_ok {out ds : List Int} {x : S52} {b : Int} (hf : fromOk out) (hd : dsOk ds) (hl : ds.length = out.length) (h : Step out x b) : 1 ≤ dstep ds x ∧ dstep ds x ≤ (ds.length : Int) + 1 := by
  rcases step_kids hf h with hk | ⟨hk, k1, k2⟩ | ⟨hk, k1, k2, k3, k4⟩
  · have e2 : twoK x.f0 = false := Bool.eq_false_iff.2 (fun h => by have := (twoK_iff _).1 h; omega)
    have e3 : isOver x.f0 = false := Bool.eq_false_iff.2 (fun h => by have := (isOver_iff _).1 h; omega)
    unfold dstep; rw [if_neg (by rw [e2]; decide), if_neg (by rw [e3]; decide)]; omega
  · have e2 : twoK x.f0 = false := Bool.eq_false_iff.2 (fun h => by have := (twoK_iff _).1 h; omega)
    have := dsOk_rd hd k1 (by omega)
    unfold dstep; rw [if_neg (by rw [e2]; decide), if_pos ((isOver_iff _).2 hk)]; omega
  · have a1 := dsOk_rd hd k1 (by omega)
    have a2 := dsOk_rd hd k3 (by omega)
    unfold dstep; rw [if_pos ((twoK_iff _).2 hk)]; unfold mx; split <;> omega
theorem deep_ok : ∀ {l : List S52} {out ds : List Int}, fromOk out → dsOk ds → ds.length = out.length → runs l out → dsOk (deepOf l ds)
  | [], _, _, _, hd, _, _ => hd
  | x :: l, out, ds, hf, hd, hl, h => by
    obtain ⟨b, h1, h2, h3⟩ := run_cons h
    have hst := step_of h1
    have hb := step_range hf hst
    have hs := dstep_ok hf hd hl hst
    exact deep_ok (ds := ds ++ [dstep ds x]) (fromOk_snoc hf hb.1 hb.2) (dsOk_snoc hd hs.1 hs.2) (by simp [hl]) h2
theorem dstep_shift {out D1 ds : List Int} {x : S52} {b : Int} (hf : fromOk out) (hl : ds.length = out.length) (hs : out.length + D1.length < 1000000) (h : Step out x b) : dstep (D1 ++ ds) (shS (D1.length : Int) x) = dstep ds x := by
  rcases step_kids hf h with hk | ⟨hk, k1, k2⟩ | ⟨hk, k1, k2, k3, k4⟩
  · have e2 : twoK x.f0 = false := Bool.eq_false_iff.2 (fun h => by have := (twoK_iff _).1 h; omega)
    have e3 : isOver x.f0 = false := Bool.eq_false_iff.2 (fun h => by have := (isOver_iff _).1 h; omega)
    have es : shS (D1.length : Int) x = x := by unfold shS; rw [isTwo_eq, if_neg (by rw [e2]; decide), if_neg (by rw [e3]; decide)]
    rw [es]; unfold dstep; rw [if_neg (by rw [e2]; decide), if_neg (by rw [e3]; decide), if_neg (by rw [e2]; decide), if_neg (by rw [e3]; decide)]
  · have e2 : twoK x.f0 = false := Bool.eq_false_iff.2 (fun h => by have := (twoK_iff _).1 h; omega)
    have e3 : isOver x.f0 = true := (isOver_iff _).2 hk
    have es : shS (D1.length : Int) x = ⟨x.f0, x.f1 + (D1.length : Int), x.f2, x.f3, x.f4, x.f5, x.f6⟩ := by unfold shS; rw [isTwo_eq, if_neg (by rw [e2]; decide), if_pos e3, wrapI (by omega) (by omega)]
    rw [es]; unfold dstep
    simp only [e2, e3]
    rw [rd_app D1 ds _ k1]; rfl
  · have e2 : twoK x.f0 = true := (twoK_iff _).2 hk
    have es : shS (D1.length : Int) x = ⟨x.f0, x.f1 + (D1.length : Int), x.f2 + (D1.length : Int), x.f3, x.f4, x.f5, x.f6⟩ := by unfold shS; rw [isTwo_eq, if_pos e2, wrapI (by omega) (by omega), wrapI (by omega) (by omega)]
    rw [es]; unfold dstep
    simp only [e2, if_true]
    rw [rd_app D1 ds _ k1, rd_app D1 ds _ k3]
theorem deep_shift : ∀ {l : List S52} {out ds D1 : List Int}, fromOk out → ds.length = out.length → D1.length + out.length + l.length < 1000000 → runs l out →
    deepOf (l.map (shS (D1.length : Int))) (D1 ++ ds) = D1 ++ deepOf l ds
  | [], _, _, _, _, _, _, _ => rfl
  | x :: l, out, ds, D1, hf, hl, hs, h => by
    rw [List.length_cons] at hs
    obtain ⟨b, h1, h2, h3⟩ := run_cons h
    have hst := step_of h1
    have hb := step_range hf hst
    rw [List.map_cons, show ∀ y m e, deepOf (y :: m) e = deepOf m (e ++ [dstep e y]) from fun _ _ _ => rfl, dstep_shift hf hl (by omega) hst, List.append_assoc]
    exact deep_shift (fromOk_snoc hf hb.1 hb.2) (by simp [hl]) (by rw [List.length_append, List.length_singleton]; omega) h2
end Go.Proofs.YtcajdkncohcaeaaDoor
