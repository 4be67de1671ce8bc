import Derived.Test.YtlfcdmibknmjeaaDoorNmK
namespace Go.Proofs.YtlfcdmibknmjeaaDoor.E
open Go Go.Proofs.YtlfcdmibknmjeaaDoor.Ev
/-! ### NamesTwice -/
def twD (d : Dcl) : Dcl := bif d.1 == (3 : Int) then (d.1, (d.2.2.1, (d.2.1, (d.2.2.2.1, (d.2.2.2.2.1, (d.2.2.2.2.2.1, (d.2.2.2.2.2.2.1, (d.2.2.2.2.2.2.2.1, ((7777 : Int), ())))))))))
  else (d.1, (d.2.1, (d.2.2.1, (d.2.2.2.1, (d.2.2.2.2.1, (d.2.2.2.2.2.1, (d.2.2.2.2.2.2.1, (d.2.2.2.2.2.2.2.1, ((7777 : Int), ())))))))))
theorem twD_good {d : Dcl} (hg : goodD d = true) : goodD (twD d) = true := by
  unfold twD
  cases e : (d.1 == (3 : Int)) with
  | false => exact hg
  | true =>
    have e3 : @Eq Int d.1 3 := by simpa using e
    have a1 : (d.1 == (1 : Int)) = false := by rw [e3]; rfl
    have a2 : (d.1 == (2 : Int)) = false := by rw [e3]; rfl
    unfold goodD at hg ⊢
    rw [a1, a2, e] at hg
    simp only [cond_true, cond_false, Bool.and_eq_true] at hg ⊢
    obtain ⟨h1, h2, h3, h4, h5, h6⟩ := hg
    have h3 : ((d.1 == (3 : Int)) && (strEq d.2.1 d.2.1 && (strEq d.2.2.1 d.2.2.1 && (strEq d.2.2.2.1 d.2.2.2.1 && (strEq d.2.2.2.2.1 (Ty.zero .str) && (strEq d.2.2.2.2.2.1 (Ty.zero .str) && ((d.2.2.2.2.2.2.2.1 == (0 : Int)) && true))))))) = true := h3
    refine ⟨h6, h2, ?_⟩
    rw [a1, a2, e]
    simp only [cond_true, cond_false, Bool.and_eq_true]
    refine ⟨?_, h4, h5, h1⟩
    show ((d.1 == (3 : Int)) && (strEq d.2.2.1 d.2.2.1 && (strEq d.2.1 d.2.1 && (strEq d.2.2.2.1 d.2.2.2.1 && (strEq d.2.2.2.2.1 (Ty.zero .str) && (strEq d.2.2.2.2.2.1 (Ty.zero .str) && ((d.2.2.2.2.2.2.2.1 == (0 : Int)) && true))))))) = true
    simp only [Bool.and_eq_true] at h3 ⊢
    exact ⟨h3.1, h3.2.2.1, h3.2.1, h3.2.2.2⟩
theorem twD_ok {d : Dcl} (h : DeclOk d) : DeclOk (twD d) := by
  unfold twD
  cases d.1 == (3 : Int) with
  | false => exact ⟨h.name, h.other, h.num, h.var, h.tree, h.trees⟩
  | true => exact ⟨h.other, h.name, h.num, h.var, h.tree, h.trees⟩
theorem snoc_ok {l : List Dcl} (h : ScriptOk l) (hl : l.length < 60) {d : Dcl} (hd : DeclOk d) : ScriptOk (l ++ [d]) :=
  ⟨fun x hx => by
    rcases List.mem_append.1 hx with k | k
    · exact h.decl x k
    · rw [List.mem_singleton] at k; rw [k]; exact hd, by unfold maxLen; simp; omega⟩
theorem lookM_app {x : ByteArray} {b : Names} {v : Int} (hv : v ≠ 0) : ∀ {a : Names}, lookM .str (.int .i64) x a = v → lookM .str (.int .i64) x (a ++ b) = v
  | [], h => absurd h.symm hv
  | p :: a, h => by
    have h : _root_.cond (strEq x p.1) p.2 (lookM .str (.int .i64) x a) = v := h
    show _root_.cond (strEq x p.1) p.2 (lookM .str (.int .i64) x (a ++ b)) = v
    cases hc : strEq x p.1 with
    | true => rw [hc] at h; exact h
    | false => rw [hc] at h; exact lookM_app hv h
theorem hasC_of {x y : List ByteArray} : ∀ {c : Covs}, y ∈ c.map Prod.fst → eqv T81 x y = true → hasM T81 (.int .i64) x c = true
  | p :: c, h, he => by
    show _root_.cond (eqv T81 x p.1) true (hasM T81 (.int .i64) x c) = true
    cases hc : eqv T81 x p.1 with
    | true => rfl
    | false =>
      rw [List.map_cons, List.mem_cons] at h
      rcases h with rfl | h
      · rw [he] at hc; cases hc
      · exact hasC_of h he
theorem mOf_app (p q : List Dcl) : mOf (p ++ q) = mOf p ++ mOf q := by unfold mOf; rw [List.filter_append, List.map_append]
theorem twice_fault {l : List Dcl} (hn : checkL ⟨[], [], []⟩ l = none) {i : Nat} (hi : i < l.length) {s : Kno} (hs : Inv l s) : (askD s (twD l[i])).2 = ((14 : Int), ((7777 : Int), ())) := by
  obtain ⟨s0, h0, hf⟩ := inv_at l [] _ inv_nil hn i hi
  rw [List.nil_append] at h0
  have hmem := List.getElem_mem hi
  generalize hd : l[i] = d at hf hmem ⊢
  cases h3 : (d.1 == (3 : Int)) with
  | true =>
    unfold askD at hf
    rw [h3] at hf
    have hf : (faultD (covD s0.m s0.c d).2 (atD d)).1 = (0 : Int) := hf
    have hm : mOf l = mOf (l.take i) ++ mOf (l.drop i) := by rw [← mOf_app, List.take_append_drop]
    have look : lookM .str (.int .i64) d.2.1 s0.m = (2 : Int) ∧ lookM .str (.int .i64) d.2.2.1 s0.m = (2 : Int) := by
      unfold covD at hf
      cases hA : (lookM .str (.int .i64) d.2.1 s0.m != (2 : Int)) with
      | true => rw [hA] at hf; cases hf
      | false => cases hB : (lookM .str (.int .i64) d.2.2.1 s0.m != (2 : Int)) with
        | true => rw [hA, hB] at hf; cases hf
        | false => exact ⟨by simpa using hA, by simpa using hB⟩
    have l1 : lookM .str (.int .i64) d.2.1 s.m = (2 : Int) := by rw [hs.m, hm]; exact lookM_app (by decide) (by rw [← h0.m]; exact look.1)
    have l2 : lookM .str (.int .i64) d.2.2.1 s.m = (2 : Int) := by rw [hs.m, hm]; exact lookM_app (by decide) (by rw [← h0.m]; exact look.2)
    have hc : hasM T81 (.int .i64) [mnS d.2.2.1 d.2.1, mxS d.2.2.1 d.2.1] s.c = true := by
      refine hasC_of (y := pairD d) ?_ ?_
      · rw [hs.c]
        unfold cOf
        exact List.mem_map.2 ⟨d, List.mem_filter.2 ⟨hmem, h3⟩, rfl⟩
      · show (strEq (mnS d.2.2.1 d.2.1) (mnS d.2.1 d.2.2.1) && (strEq (mxS d.2.2.1 d.2.1) (mxS d.2.1 d.2.2.1) && true)) = true
        rw [strEq_iff.2 (mn_comm _ _), strEq_iff.2 (mx_comm _ _)]
        rfl
    unfold twD
    rw [h3]
    unfold askD covD
    show (_root_.cond (d.1 == (3 : Int)) _ _ : Kno × Flt).2 = _
    rw [h3]
    show faultD (_root_.cond (lookM .str (.int .i64) d.2.2.1 s.m != (2 : Int)) _ (_root_.cond (lookM .str (.int .i64) d.2.1 s.m != (2 : Int)) _ (_root_.cond (hasM T81 (.int .i64) [mnS d.2.2.1 d.2.1, mxS d.2.2.1 d.2.1] s.c) _ _)) : Covs × Int).2 7777 = _
    rw [l1, l2, hc]
    rfl
  | false =>
    unfold twD
    rw [h3]
    cases h1 : (d.1 == (1 : Int)) with
    | true =>
      have hu : hasM .str (.int .i64) d.2.1 s.u = true := by
        rw [hs.u, hasM_iff]
        refine ⟨(d.2.1, d.1), ?_, strEq_iff.2 rfl⟩
        unfold uOf
        exact List.mem_map.2 ⟨d, List.mem_filter.2 ⟨hmem, by simp [h3, h1]⟩, rfl⟩
      unfold askD
      show (_root_.cond (d.1 == (3 : Int)) _ (_root_.cond (d.1 == (1 : Int)) (_root_.cond (hasM .str (.int .i64) d.2.1 s.u) _ _) _) : Kno × Flt).2 = _
      rw [h3, h1, hu]
      rfl
    | false =>
      have hu : hasM .str (.int .i64) d.2.1 s.m = true := by
        rw [hs.m, hasM_iff]
        refine ⟨(d.2.1, d.1), ?_, strEq_iff.2 rfl⟩
        unfold mOf
        exact List.mem_map.2 ⟨d, List.mem_filter.2 ⟨hmem, by unfold isV; simp [h3, h1]⟩, rfl⟩
      unfold askD
      show (_root_.cond (d.1 == (3 : Int)) _ (_root_.cond (d.1 == (1 : Int)) _ (_root_.cond (hasM .str (.int .i64) d.2.1 s.m) _ _)) : Kno × Flt).2 = _
      rw [h3, h1, hu]
      rfl
theorem check_none {l : List Dcl} (h : @Eq Int (checkD l).1 0) : mayD l = true ∧ checkL ⟨[], [], []⟩ l = none := by
  unfold checkD at h
  cases hm : mayD l with
  | false => rw [hm] at h; cases h
  | true =>
    refine ⟨rfl, ?_⟩
    rw [hm] at h
    cases hc : checkL ⟨[], [], []⟩ l with
    | none => rfl
    | some f =>
      have he := checkL_err l _ f hc
      rw [hc] at h
      have h : @Eq Int f.1 0 := h
      rcases he with e | e <;> rw [e] at h <;> cases h
theorem mayD_snoc {l : List Dcl} (h : mayD l = true) (hl : l.length < 60) {d : Dcl} (hd : goodD d = true) : mayD (l ++ [d]) = true := by
  unfold mayD at h ⊢
  simp only [Bool.and_eq_true, List.all_append, List.all_cons, List.all_nil, Bool.and_true, decide_eq_true_eq, List.length_append, List.length_singleton] at h ⊢
  exact ⟨⟨h.1, hd⟩, by omega⟩
theorem check_snoc {l : List Dcl} (h : @Eq Int (checkD l).1 0) (hl : l.length < 60) {d : Dcl} (hd : goodD d = true) : ∃ s, Inv l s ∧ checkD (l ++ [d]) = bif (askD s d).2.1 != (0 : Int) then (askD s d).2 else ((0 : Int), ((0 : Int), ())) := by
  obtain ⟨hm, hn⟩ := check_none h
  obtain ⟨s, h1, h2⟩ := inv_end l [] _ inv_nil hn
  refine ⟨s, by simpa using h1, ?_⟩
  unfold checkD
  rw [mayD_snoc hm hl hd, h2]
  show (_root_.cond ((askD s d).2.1 != (0 : Int)) (some (askD s d).2) none).getD _ = _
  cases (askD s d).2.1 != (0 : Int) <;> rfl
theorem check_twice {l : List Dcl} (h : @Eq Int (checkD l).1 0) (hl : l.length < 60) {d : Dcl} (hmem : d ∈ l) : checkD (l ++ [twD d]) = ((14 : Int), ((7777 : Int), ())) := by
  obtain ⟨hm, hn⟩ := check_none h
  obtain ⟨i, hi, rfl⟩ := List.getElem_of_mem hmem
  have hg : goodD l[i] = true := by
    unfold mayD at hm
    simp only [Bool.and_eq_true, List.all_eq_true] at hm
    exact hm.1 _ hmem
  obtain ⟨s, h1, h2⟩ := check_snoc h hl (twD_good hg)
  rw [h2, twice_fault hn hi h1]
  rfl
theorem check_zz {l : List Dcl} (h : @Eq Int (checkD l).1 0) (hl : l.length < 60) : ((checkD (l ++ [dZ])).1 == (0 : Int)) = !hasD l (ByteArray.mk #[122, 122, 95, 110, 111, 110, 101]) := by
  obtain ⟨s, h1, h2⟩ := check_snoc h hl dZ_good
  rw [h2]
  have e : hasM .str (.int .i64) (ByteArray.mk #[122, 122, 95, 110, 111, 110, 101]) s.u = hasD l (ByteArray.mk #[122, 122, 95, 110, 111, 110, 101]) := by
    rw [Bool.eq_iff_iff, h1.u, hasM_iff]
    unfold hasD uOf
    simp only [List.any_eq_true, List.mem_map, List.mem_filter, Bool.and_eq_true]
    constructor
    · rintro ⟨p, ⟨d, ⟨hd, h3, hk⟩, rfl⟩, hs⟩
      exact ⟨d, hd, hk, strEq_iff.2 (strEq_iff.1 hs).symm⟩
    · rintro ⟨d, hd, hk, hs⟩
      have e1 : @Eq Int d.1 1 := by simpa using hk
      exact ⟨_, ⟨d, ⟨hd, by rw [e1]; rfl, hk⟩, rfl⟩, strEq_iff.2 (strEq_iff.1 hs).symm⟩
  have ask : (askD s dZ).2 = bif hasM .str (.int .i64) (ByteArray.mk #[122, 122, 95, 110, 111, 110, 101]) s.u then ((14 : Int), ((0 : Int), ())) else ((0 : Int), ((0 : Int), ())) := by
    show (_root_.cond (hasM .str (.int .i64) (ByteArray.mk #[122, 122, 95, 110, 111, 110, 101]) s.u) _ _ : Kno × Flt).2 = _
    cases hasM .str (.int .i64) (ByteArray.mk #[122, 122, 95, 110, 111, 110, 101]) s.u <;> rfl
  rw [ask, e]
  cases hasD l (ByteArray.mk #[122, 122, 95, 110, 111, 110, 101]) <;> rfl
end Go.Proofs.YtlfcdmibknmjeaaDoor.E
