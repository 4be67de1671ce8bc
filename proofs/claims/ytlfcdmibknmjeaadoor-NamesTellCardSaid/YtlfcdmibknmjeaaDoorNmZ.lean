import Derived.Test.YtlfcdmibknmjeaaDoorNmY
namespace Go.Proofs.YtlfcdmibknmjeaaDoor.E
open Go Go.Proofs.YtlfcdmibknmjeaaDoor.Ev
set_option linter.unusedSimpArgs false
/-! ### NamesTell: what the reference's Check answers, as one fold -/
def valB (d : Dcl) : Bool := (d.1 == (2 : Int)) || ((d.1 == (4 : Int)) || (d.1 == (5 : Int)))
theorem value_v (d : Dcl) : ref17_value.f d = some (valB d) := by
  unfold ref17_value.f valB
  cases (d.1 == (2 : Int)) <;> cases (d.1 == (4 : Int)) <;> rfl
def twB (d x : Dcl) : Bool := strEq x.2.1 d.2.1 && ((valB x && valB d) || ((x.1 == (1 : Int)) && (d.1 == (1 : Int))))
def agB (d x : Dcl) : Bool := (x.1 == (3 : Int)) && ((strEq x.2.1 d.2.1 && strEq x.2.2.1 d.2.2.1) || (strEq x.2.1 d.2.2.1 && strEq x.2.2.1 d.2.1))
theorem take_drop {l : List Dcl} {i k : Int} (hi : i ≤ l.length) (h0 : 0 ≤ k) (hk : k < i) : (l.take i.toNat).drop k.toNat = rdL (Ty.zero api_Decl) l k :: (l.take i.toNat).drop (k + 1).toNat := by
  have hq : (l.take i.toNat).length = i.toNat := by rw [List.length_take]; omega
  rw [rdL_drop (Ty.zero api_Decl) (l.take i.toNat) k h0 (by omega), rdL_take _ _ _ k h0 (by omega)]
theorem take_past {l : List Dcl} {i k : Int} (h0 : 0 ≤ k) (hk : ¬ k < i) : (l.take i.toNat).drop k.toNat = [] := by
  refine List.drop_eq_nil_of_le ?_
  rw [List.length_take]
  omega
theorem tw_l {l : List Dcl} (hl : l.length ≤ 6000) (z : Flt) (d : Dcl) {i : Int} (hi : i ≤ l.length) : ∀ (m : Nat) (k : Int), 0 ≤ k → i - k ≤ m →
    ref17_Check.V0 z d l i k = some (bif ((l.take i.toNat).drop k.toNat).any (twB d) then Sum.inr ((14 : Int), (atD d, ())) else Sum.inl (z, (d, (l, i)))) := by
  intro m
  induction m with
  | zero =>
    intro k h0 h2
    refine ref17_Check.v0 _ _ _ _ _ ?_
    unfold ref17_Check.b0
    rw [df' (by omega), take_past h0 (by omega)]
    rfl
  | succ m ih =>
    intro k h0 h2
    refine ref17_Check.v0 _ _ _ _ _ ?_
    unfold ref17_Check.b0
    by_cases hk : k < i
    · have nx := ih (k + 1) (by omega) (by omega)
      have w : IntKind.wrap .i64 (k + 1) = k + 1 := wrap64 (by omega) (by omega)
      rw [dt' hk, dt' (show 0 ≤ k ∧ k < (l.length : Int) by omega), take_drop hi h0 hk, List.any_cons]
      generalize rdL (Ty.zero api_Decl) l k = x
      simp only [cond_true, value_v, Option.bind_some]
      generalize ((l.take i.toNat).drop (k + 1).toNat).any (twB d) = R at nx ⊢
      unfold twB
      cases strEq x.2.1 d.2.1 <;> cases valB x <;> cases valB d <;> cases (x.1 == (1 : Int)) <;> cases (d.1 == (1 : Int)) <;> simp only [cond_true, cond_false, Option.bind_some, w, nx, Bool.false_and, Bool.true_and, Bool.and_false, Bool.or_false, Bool.false_or, Bool.true_or, Bool.or_self, Bool.and_self] <;> rfl
    · rw [df' hk, take_past h0 hk]
      rfl
theorem ag_l {l : List Dcl} (hl : l.length ≤ 6000) (z : Flt) (d : Dcl) {i : Int} (hi : i ≤ l.length) : ∀ (m : Nat) (k : Int) (a : Bool), 0 ≤ k → i - k ≤ m →
    ref17_Check.V1 z d l i a k = some (z, (d, (l, (i, a || ((l.take i.toNat).drop k.toNat).any (agB d))))) := by
  intro m
  induction m with
  | zero =>
    intro k a h0 h2
    refine ref17_Check.v1 _ _ _ _ _ _ ?_
    unfold ref17_Check.b1
    rw [df' (by omega), take_past h0 (by omega)]
    simp
  | succ m ih =>
    intro k a h0 h2
    refine ref17_Check.v1 _ _ _ _ _ _ ?_
    unfold ref17_Check.b1
    by_cases hk : k < i
    · have nx := fun a => ih (k + 1) a (by omega) (by omega)
      have w : IntKind.wrap .i64 (k + 1) = k + 1 := wrap64 (by omega) (by omega)
      rw [dt' hk, dt' (show 0 ≤ k ∧ k < (l.length : Int) by omega), take_drop hi h0 hk, List.any_cons]
      generalize rdL (Ty.zero api_Decl) l k = x
      simp only [cond_true]
      generalize ((l.take i.toNat).drop (k + 1).toNat).any (agB d) = R at nx ⊢
      unfold agB
      cases a <;> cases (x.1 == (3 : Int)) <;> cases strEq x.2.1 d.2.1 <;> cases strEq x.2.2.1 d.2.2.1 <;> cases strEq x.2.1 d.2.2.1 <;> cases strEq x.2.2.1 d.2.1 <;> simp only [cond_true, cond_false, Option.bind_some, w, nx, Bool.false_and, Bool.true_and, Bool.and_false, Bool.or_false, Bool.false_or, Bool.true_or, Bool.or_self, Bool.and_self, Bool.and_true, Bool.or_true] <;> rfl
    · rw [df' hk, take_past h0 hk]
      simp
theorem firstI_find (P : Dcl → Bool) : ∀ (l : List Dcl) (i : Int), match firstI P l i with | some j => i ≤ j ∧ j < i + l.length ∧ l.find? P = some (rdL (Ty.zero api_Decl) l (j - i)) | none => l.find? P = none
  | [], _ => rfl
  | d :: l, i => by
    rw [firstI, List.find?_cons]
    cases hp : P d with
    | true => exact ⟨Int.le_refl _, by simp; omega, by rw [Int.sub_self]; rfl⟩
    | false =>
      have := firstI_find P l (i + 1)
      simp only [cond_false]
      cases hf : firstI P l (i + 1) with
      | none => rw [hf] at this; exact this
      | some j =>
        rw [hf] at this
        obtain ⟨h1, h2, h3⟩ := this
        refine ⟨by omega, by simp only [List.length_cons]; omega, ?_⟩
        show l.find? P = _
        rw [h3]
        unfold rdL
        rw [show (j - i).toNat = (j - (i + 1)).toNat + 1 by omega]
        rfl
theorem upto_is {l : List Dcl} {i : Int} (h0 : 0 ≤ i) (hi : i ≤ l.length) : upto l i = l.take i.toNat := by
  unfold upto
  congr 1
  unfold mxI mnI
  split <;> split <;> omega
theorem find_neg {l : List Dcl} (hl : l.length ≤ 6000) (s : ByteArray) {i : Int} (h0 : 0 ≤ i) (hi : i ≤ l.length) : ∃ y, ref17_Find.V l s i = some y ∧ decide (y < 0) = ((l.take i.toNat).find? (refP s)).isNone := by
  have := lim_iff.2 (rfind_ev s i hl)
  rw [upto_is h0 hi] at this
  have f := firstI_find (refP s) (l.take i.toNat) 0
  cases hf : firstI (refP s) (l.take i.toNat) 0 with
  | none => rw [hf] at this f; exact ⟨_, this, by rw [f]; rfl⟩
  | some j => rw [hf] at this f; exact ⟨j, this, by rw [f.2.2]; exact df' (by omega)⟩
def srcB (p : List Dcl) (s : ByteArray) : Bool := match p.find? (refP s) with | some d => d.1 == (2 : Int) | none => false
theorem source_v {l : List Dcl} (hl : l.length ≤ 6000) (s : ByteArray) {i : Int} (h0 : 0 ≤ i) (hi : i ≤ l.length) : ref17_source.V l s i = some (srcB (l.take i.toNat) s) := by
  refine ref17_source.v _ _ _ ?_
  unfold ref17_source.b srcB
  have := lim_iff.2 (rfind_ev s i hl)
  rw [upto_is h0 hi] at this
  have f := firstI_find (refP s) (l.take i.toNat) 0
  have hq : (l.take i.toNat).length = i.toNat := by rw [List.length_take]; omega
  simp only
  cases hf : firstI (refP s) (l.take i.toNat) 0 with
  | none => rw [hf] at this f; rw [show ref17_Find.V l s i = _ from this, f]; rfl
  | some j =>
    rw [hf] at this f
    obtain ⟨f1, f2, f3⟩ := f
    rw [show ref17_Find.V l s i = _ from this, f3, Option.bind_some, dt' (show j ≥ 0 by omega), dt' (show 0 ≤ j ∧ j < (l.length : Int) by omega), Int.sub_zero, rdL_take _ _ _ j (by omega) (by omega)]
    rfl
def badF (p : List Dcl) (n : Nd) : Bool := (n.1 == (2 : Int)) && (p.find? (refP n.2.2.2.2.1)).isNone
theorem tr_l {l : List Dcl} (hl : l.length ≤ 6000) (z : Flt) (d : Dcl) (hd : d.2.2.2.2.2.2.1.length ≤ 6000) {i : Int} (h0' : 0 ≤ i) (hi : i ≤ l.length) : ∀ (m : Nat) (k : Int), 0 ≤ k → (d.2.2.2.2.2.2.1.length : Int) - k ≤ m →
    ref17_Check.V2 z d l i k = some (match (d.2.2.2.2.2.2.1.drop k.toNat).find? (badF (l.take i.toNat)) with | some n => Sum.inr ((13 : Int), (n.2.2.2.2.2.2.1, ())) | none => Sum.inl (z, (l, i))) := by
  intro m
  induction m with
  | zero =>
    intro k h0 h2
    refine ref17_Check.v2 _ _ _ _ _ ?_
    unfold ref17_Check.b2
    rw [df' (by omega), List.drop_eq_nil_of_le (by omega)]
    rfl
  | succ m ih =>
    intro k h0 h2
    refine ref17_Check.v2 _ _ _ _ _ ?_
    unfold ref17_Check.b2
    by_cases hk : k < d.2.2.2.2.2.2.1.length
    · have nx := ih (k + 1) (by omega) (by omega)
      have w : IntKind.wrap .i64 (k + 1) = k + 1 := wrap64 (by omega) (by omega)
      have hg : decide (0 ≤ k ∧ k < (d.2.2.2.2.2.2.1.length : Int)) = true := dt' (by omega)
      rw [rdL_drop (Ty.zero api_Node) d.2.2.2.2.2.2.1 k h0 hk, List.find?_cons]
      generalize rdL (Ty.zero api_Node) d.2.2.2.2.2.2.1 k = n
      obtain ⟨y, e1, e2⟩ := find_neg hl n.2.2.2.2.1 h0' hi
      simp only [dt' hk, hg, cond_true, e1, Option.bind_some, e2, w, nx]
      unfold badF
      cases (n.1 == (2 : Int)) <;> cases ((l.take i.toNat).find? (refP n.2.2.2.2.1)).isNone <;> rfl
    · rw [df' hk, List.drop_eq_nil_of_le (by omega)]
      rfl
/-- the fault of a declaration behind others -/
def faultR (p : List Dcl) (d : Dcl) : Option Flt :=
  bif p.any (twB d) then some ((14 : Int), (atD d, ())) else
  bif (d.1 == (3 : Int)) && !srcB p d.2.1 then some ((13 : Int), (atD d, ())) else
  bif (d.1 == (3 : Int)) && !srcB p d.2.2.1 then some ((13 : Int), (atD d, ())) else
  bif (d.1 == (3 : Int)) && (strEq d.2.1 d.2.2.1 || p.any (agB d)) then some ((14 : Int), (atD d, ())) else
  match d.2.2.2.2.2.2.1.find? (badF p) with | some n => some ((13 : Int), (n.2.2.2.2.2.2.1, ())) | none => none
def checkR : List Dcl → List Dcl → Option Flt
  | _, [] => none
  | p, d :: r => match faultR p d with | some f => some f | none => checkR (p ++ [d]) r
theorem out_l {l : List Dcl} (hl : l.length ≤ 6000) (ht : ∀ d ∈ l, d.2.2.2.2.2.2.1.length ≤ 6000) (z : Flt) : ∀ (m : Nat) (i : Int), 0 ≤ i → i ≤ l.length → (l.length : Int) - i ≤ m →
    ref17_Check.V3 z l i = some (match checkR (l.take i.toNat) (l.drop i.toNat) with | some f => Sum.inr f | none => Sum.inl z) := by
  intro m
  induction m with
  | zero =>
    intro i h0 h1 h2
    refine ref17_Check.v3 _ _ _ ?_
    unfold ref17_Check.b3
    rw [df' (by omega), List.drop_eq_nil_of_le (by omega)]
    rfl
  | succ m ih =>
    intro i h0 h1 h2
    refine ref17_Check.v3 _ _ _ ?_
    unfold ref17_Check.b3
    by_cases hi : i < l.length
    · have nx := ih (i + 1) (by omega) (by omega) (by omega)
      have w : IntKind.wrap .i64 (i + 1) = i + 1 := wrap64 (by omega) (by omega)
      have hmem := ht _ (rdL_mem (Ty.zero api_Decl) l i h0 hi)
      rw [dt' hi, dt' (show 0 ≤ i ∧ i < (l.length : Int) by omega), rdL_drop (Ty.zero api_Decl) l i h0 hi, checkR]
      have et : l.take (i + 1).toNat = l.take i.toNat ++ [rdL (Ty.zero api_Decl) l i] := by
        rw [show (i + 1).toNat = i.toNat + 1 by omega, List.take_succ_eq_append_getElem (by omega), rdL_get' _ l i h0 hi]
      rw [et] at nx
      generalize rdL (Ty.zero api_Decl) l i = d at hmem nx
      have f0 := tw_l hl z d h1 i.toNat 0 (by omega) (by omega)
      have f1 := source_v hl d.2.1 h0 h1
      have f2 := source_v hl d.2.2.1 h0 h1
      have f3 := fun a => ag_l hl z d h1 i.toNat 0 a (by omega) (by omega)
      have f4 := tr_l hl z d hmem h0 h1 d.2.2.2.2.2.2.1.length 0 (by omega) (by omega)
      rw [Int.toNat_zero, List.drop_zero] at f0 f4
      simp only [Int.toNat_zero, List.drop_zero] at f3
      generalize l.take i.toNat = p at f0 f1 f2 f3 f4 nx
      simp only [cond_true, f0, Option.bind_some]
      unfold faultR
      cases p.any (twB d) with
      | true => rfl
      | false =>
        simp only [cond_false, Sum.elim_inl]
        cases h3 : (d.1 == (3 : Int)) with
        | false =>
          simp only [cond_false, Option.bind_some, Sum.elim_inl, f4, Bool.false_and]
          cases d.2.2.2.2.2.2.1.find? (badF p) with
          | some n => rfl
          | none => simp only [Option.bind_some, Sum.elim_inl, w, nx]
        | true =>
          simp only [cond_true, f1, f2, f3, Option.bind_some, Bool.true_and]
          cases srcB p d.2.1 with
          | false => rfl
          | true => cases srcB p d.2.2.1 with
            | false => rfl
            | true =>
              simp only [Bool.not_true, cond_false, Option.bind_some]
              cases strEq d.2.1 d.2.2.1 || p.any (agB d) with
              | true => rfl
              | false =>
                simp only [cond_false, Option.bind_some, Sum.elim_inl, f4]
                cases d.2.2.2.2.2.2.1.find? (badF p) with
                | some n => rfl
                | none => simp only [Option.bind_some, Sum.elim_inl, w, nx]
    · rw [df' hi, List.drop_eq_nil_of_le (by omega)]
      rfl
theorem rmay_l {l : List Dcl} (hl : l.length ≤ 6000) (hd : ∀ d ∈ l, DeclOk2 d) : ∀ (m : Nat) (i : Int), 0 ≤ i → (l.length : Int) - i ≤ m →
    ref16_May.V0 l i = some (bif (l.drop i.toNat).all goodR then Sum.inl l else Sum.inr false) := by
  intro m
  induction m with
  | zero =>
    intro i h0 h2
    refine ref16_May.v0 _ _ ?_
    unfold ref16_May.b0
    rw [df' (by omega), List.drop_eq_nil_of_le (by omega)]
    rfl
  | succ m ih =>
    intro i h0 h2
    refine ref16_May.v0 _ _ ?_
    unfold ref16_May.b0
    by_cases hi : i < l.length
    · have nx := ih (i + 1) (by omega) (by omega)
      rw [dt' hi, dt' (show 0 ≤ i ∧ i < (l.length : Int) by omega), rdL_drop (Ty.zero api_Decl) l i h0 hi, List.all_cons, (good_v (hd _ (rdL_mem _ l i h0 hi))).2, wrap64 (by omega) (by omega), nx]
      cases goodR (rdL (Ty.zero api_Decl) l i) <;> rfl
    · rw [df' hi, List.drop_eq_nil_of_le (by omega)]
      rfl
theorem mayD_is {l : List Dcl} (hd : ∀ d ∈ l, DeclOk2 d) : mayD l = (l.all goodR && decide ((l.length : Int) ≤ 60)) := by
  unfold mayD
  congr 1
  rw [Bool.eq_iff_iff, List.all_eq_true, List.all_eq_true]
  exact ⟨fun h d m => by rw [← goodR_is (hd d m)]; exact h d m, fun h d m => by rw [goodR_is (hd d m)]; exact h d m⟩
theorem rmay_v {l : List Dcl} (hl : l.length ≤ 6000) (hd : ∀ d ∈ l, DeclOk2 d) : ref16_May.V l = some (mayD l) := by
  refine ref16_May.v _ ?_
  unfold ref16_May.b
  rw [rmay_l hl hd l.length 0 (by omega) (by omega), Int.toNat_zero, List.drop_zero, mayD_is hd]
  cases l.all goodR <;> rfl
theorem rcheck_v {l : List Dcl} (hl : l.length ≤ 6000) (ht : ∀ d ∈ l, d.2.2.2.2.2.2.1.length ≤ 6000) (hd : ∀ d ∈ l, DeclOk2 d) : ref17_Check.V l = some (bif !mayD l then ((1 : Int), ((0 : Int), ())) else (checkR [] l).getD ((0 : Int), ((0 : Int), ()))) := by
  refine ref17_Check.v _ ?_
  unfold ref17_Check.b
  rw [rmay_v hl hd, Option.bind_some]
  cases mayD l with
  | false => rfl
  | true =>
    have := out_l hl ht (Ty.zero api_Fault) l.length 0 (by omega) (by omega) (by omega)
    simp only [Int.toNat_zero, List.take_zero, List.drop_zero] at this
    simp only [Bool.not_true, cond_false]
    rw [this]
    cases checkR [] l <;> rfl
end Go.Proofs.YtlfcdmibknmjeaaDoor.E
