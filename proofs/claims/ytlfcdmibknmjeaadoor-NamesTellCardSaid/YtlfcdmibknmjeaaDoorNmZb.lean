import Derived.Test.YtlfcdmibknmjeaaDoorNmZa
namespace Go.Proofs.YtlfcdmibknmjeaaDoor.E
open Go Go.Proofs.YtlfcdmibknmjeaaDoor.Ev
set_option linter.unusedSimpArgs false
/-! ### NamesTell -/
theorem fault_is {p : List Dcl} {s : Kno} {d : Dcl} (hi : Inv p s) (ha : Ahead p) (hd : goodR d = true) : (bif (askD s d).2.1 != (0 : Int) then some (askD s d).2 else none) = faultR p d := by
  obtain ⟨hk, ht⟩ := good_kind hd
  have hbad : badRef (mOf p) = badF p := funext (bad_is ha)
  have f14 : (bif (faultD 14 (atD d)).1 != (0 : Int) then some (faultD 14 (atD d)) else none) = some ((14 : Int), (atD d, ())) := rfl
  have f13 : (bif (faultD 13 (atD d)).1 != (0 : Int) then some (faultD 13 (atD d)) else none) = some ((13 : Int), (atD d, ())) := rfl
  have fm : (bif (formD (mOf p) d.2.2.2.2.2.2.1).1 != (0 : Int) then some (formD (mOf p) d.2.2.2.2.2.2.1) else none) = match d.2.2.2.2.2.2.1.find? (badF p) with | some n => some ((13 : Int), (n.2.2.2.2.2.2.1, ())) | none => none := by
    unfold formD
    rw [hbad]
    cases d.2.2.2.2.2.2.1.find? (badF p) <;> rfl
  have any_congr : ∀ {f g : Dcl → Bool}, (∀ x, f x = g x) → p.any f = p.any g := fun h => by rw [funext h]
  rcases hk with e | e | e | e | e
  · have tw : p.any (twB d) = hasM .str (.int .i64) d.2.1 (uOf p) := by
      rw [hasM_u]
      refine any_congr fun x => ?_
      unfold twB
      have : valB d = false := by unfold valB; simp only [kind_b e]; rfl
      rw [this, kind_b e]
      simp
    unfold askD faultR
    simp only [kind_b e, show ((1 : Int) == 3) = false from rfl, show ((1 : Int) == 1) = true from rfl, cond_true, cond_false, Bool.false_and, tw, hi.u, hi.m]
    cases hasM .str (.int .i64) d.2.1 (uOf p) with
    | true => exact f14
    | false => exact fm
  · have tw : p.any (twB d) = hasM .str (.int .i64) d.2.1 (mOf p) := by
      rw [hasM_m ha]
      refine any_congr fun x => ?_
      unfold twB
      have : valB d = true := by unfold valB; simp only [kind_b e]; rfl
      rw [this, kind_b e]
      simp
    unfold askD faultR
    simp only [kind_b e, show ((2 : Int) == 3) = false from rfl, show ((2 : Int) == 1) = false from rfl, cond_true, cond_false, Bool.false_and, tw, hi.u, hi.m]
    cases hasM .str (.int .i64) d.2.1 (mOf p) with
    | true => exact f14
    | false => exact fm
  · have tw : p.any (twB d) = false := by
      rw [List.any_eq_false]
      intro x _
      unfold twB
      have : valB d = false := by unfold valB; simp only [kind_b e]; rfl
      rw [this, kind_b e]
      simp
    have t0 := ht (.inr (.inr e))
    have hc : hasM T81 (.int .i64) (pairD d) s.c = p.any (agB d) := by rw [hasC_is, hi.c, cov_any]
    unfold askD faultR covD
    simp only [kind_b e, show ((3 : Int) == 3) = true from rfl, cond_true, cond_false, Bool.true_and, tw, hi.m, src_look ha, hc, mm_eq, t0, List.find?_nil, bne]
    cases (lookM .str (.int .i64) d.2.1 (mOf p) == (2 : Int)) with
    | false => exact f13
    | true => cases (lookM .str (.int .i64) d.2.2.1 (mOf p) == (2 : Int)) with
      | false => exact f13
      | true => cases p.any (agB d) with
        | true => simp only [Bool.or_true]; exact f14
        | false => cases strEq d.2.1 d.2.2.1 with
          | true => exact f14
          | false => rfl
  all_goals
    have tw : p.any (twB d) = hasM .str (.int .i64) d.2.1 (mOf p) := by
      rw [hasM_m ha]
      refine any_congr fun x => ?_
      unfold twB
      have : valB d = true := by unfold valB; simp only [kind_b e]; rfl
      rw [this, kind_b e]
      simp
    unfold askD faultR
    simp only [kind_b e, show ((4 : Int) == 3) = false from rfl, show ((4 : Int) == 1) = false from rfl, show ((5 : Int) == 3) = false from rfl, show ((5 : Int) == 1) = false from rfl, cond_true, cond_false, Bool.false_and, tw, hi.u, hi.m]
    cases hasM .str (.int .i64) d.2.1 (mOf p) with
    | true => exact f14
    | false => exact fm
theorem ahead_snoc {p : List Dcl} {d : Dcl} (ha : Ahead p) (hd : goodR d = true) (ht : p.any (twB d) = false) : Ahead (p ++ [d]) := by
  have no : ∀ x ∈ p, isV x = true → isV d = true → strEq x.2.1 d.2.1 = true → False := fun x hx h1 h2 h3 => by
    have := List.any_eq_false.1 ht x hx
    refine this ?_
    unfold twB
    rw [h3, ← isV_is (ha.kind x hx), ← isV_is hd, h1, h2]
    rfl
  refine ⟨fun x hx => ?_, fun x hx y hy h1 h2 h3 => ?_⟩
  · rcases List.mem_append.1 hx with hx | hx
    · exact ha.kind x hx
    · rw [List.mem_singleton] at hx; rw [hx]; exact hd
  · rcases List.mem_append.1 hx with kx | kx <;> rcases List.mem_append.1 hy with ky | ky
    · exact ha.uq x kx y ky h1 h2 h3
    · rw [List.mem_singleton] at ky; rw [ky] at h2 h3; exact (no x kx h1 h2 h3).elim
    · rw [List.mem_singleton] at kx; rw [kx] at h1 h3; exact (no y ky h2 h1 (by rw [strEq_comm]; exact h3)).elim
    · rw [List.mem_singleton] at kx ky; rw [kx, ky]
theorem check_is : ∀ (l p : List Dcl) (s : Kno), Inv p s → Ahead p → (∀ d ∈ l, goodR d = true) → checkL s l = checkR p l
  | [], _, _, _, _, _ => rfl
  | d :: l, p, s, hi, ha, hg => by
    have hf := fault_is hi ha (hg d (by simp))
    rw [checkL, checkR, ← hf]
    cases hc : (askD s d).2.1 != (0 : Int) with
    | true => rfl
    | false =>
      simp only [cond_false]
      have h0 : (askD s d).2.1 = (0 : Int) := by simpa using hc
      refine check_is l (p ++ [d]) _ (inv_snoc hi h0) (ahead_snoc ha (hg d (by simp)) ?_) fun x hx => hg x (List.mem_cons_of_mem _ hx)
      rw [hc] at hf
      unfold faultR at hf
      cases ht : p.any (twB d) with
      | false => rfl
      | true => rw [ht] at hf; cases hf
theorem rcheckD {l : List Dcl} (hl : l.length ≤ 6000) (ht : ∀ d ∈ l, d.2.2.2.2.2.2.1.length ≤ 6000) (hd : ∀ d ∈ l, DeclOk2 d) : ref17_Check.V l = some (checkD l) := by
  rw [rcheck_v hl ht hd]
  unfold checkD
  cases hm : mayD l with
  | false => rfl
  | true =>
    have hg : ∀ d ∈ l, goodR d = true := by
      rw [mayD_is hd] at hm
      simp only [Bool.and_eq_true, List.all_eq_true] at hm
      exact hm.1
    rw [check_is l [] ⟨[], [], []⟩ inv_nil ⟨fun d h => (by cases h), fun x h => (by cases h)⟩ hg]
theorem lim_ex {α : Type} {p : Nat → Option α} {Q : α → Prop} (h : Evw p Q) : ∃ x, lim p = some x ∧ Q x := by
  obtain ⟨x, hx, hK⟩ := h
  exact ⟨x, lim_iff.2 ⟨x, rfl, hK⟩, hx⟩
theorem declOk2 {l : List Dcl} (h : Wf (.list api_Decl) l) : ∀ d ∈ l, DeclOk2 d := fun d hd => by
  obtain ⟨_, h1, h2, h3, h4, h5, ⟨h6, h7⟩, _⟩ := h.2 d hd
  exact ⟨(scriptOk h).decl d hd, h5, fun n hn => by obtain ⟨_, _, _, _, h8, h9, _⟩ := h7 n hn; exact ⟨h8, h9⟩⟩
theorem tell_v {l : List Dcl} (h : Wf (.list api_Decl) l) (s : ByteArray) (a : Int) : law17_NamesTell.V l s a = some true := by
  refine law17_NamesTell.v _ _ _ ?_
  unfold law17_NamesTell.b
  obtain ⟨b, hb, hs⟩ := lim_ex (large_ev' (scriptOk h))
  rw [show keep_LargeScript.V l = some b from hb, Option.bind_some]
  have wk : law17_wakes.V = some true := lim_iff.2 wakes_ev
  cases b with
  | true => rw [wk]; rfl
  | false =>
    obtain ⟨h1, h2⟩ := hs rfl
    simp only [cond_false]
    cases decide ((s.size : Int) > 200) with
    | true => rw [wk]; rfl
    | false =>
      have e1 : keep_OwnScript.V l = some l := lim_iff.2 (own_ev h1 h2)
      have e2 : names_Check.V l = some (checkD l) := lim_iff.2 (checkD_ev (scriptOk h))
      have e3 := rcheckD h1 h2 (declOk2 h)
      have e4 : names_Find.V l s a = some (match firstI (refP s) (upto l a) 0 with | some j => (j, true) | none => ((0 : Int), false)) := lim_iff.2 (find_ev s a h1)
      have e5 : ref17_Find.V l s a = some (match firstI (refP s) (upto l a) 0 with | some j => j | none => (-1 : Int)) := lim_iff.2 (rfind_ev s a h1)
      have e6 : names_Sources.V l = some (sourcesD l) := lim_iff.2 (src_ev h1)
      have e7 : ref17_Sources.V l = some (sourcesD l) := lim_iff.2 (rsrc_ev h1)
      have e8 : keep_Texts.V (sourcesD l) (sourcesD l) = some true := lim_iff.2 (texts_ev (by unfold sourcesD; rw [List.length_map]; exact Nat.le_trans (List.length_filter_le _ _) h1))
      have e9 : keep_Script.V l l = some true := lim_iff.2 (script_self h1 h2)
      simp only [cond_false, e1, e2, e3, e4, e5, e6, e7, e8, e9, wk, Option.bind_some, BEq.rfl, cond_true]
      cases hf : firstI (refP s) (upto l a) 0 with
      | none => rfl
      | some j =>
        have := firstI_ge _ _ _ _ hf
        simp only
        rw [dt' (show j ≥ 0 by omega), show mxI 0 j = j from by unfold mxI; split <;> omega]
        simp only [BEq.rfl, cond_true]
        rfl
end Go.Proofs.YtlfcdmibknmjeaaDoor.E
