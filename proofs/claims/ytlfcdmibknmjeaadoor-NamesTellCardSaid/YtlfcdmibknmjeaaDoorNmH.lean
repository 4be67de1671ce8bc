import Derived.Test.YtlfcdmibknmjeaaDoorNmE
namespace Go.Proofs.YtlfcdmibknmjeaaDoor.E
open Go Go.Proofs.YtlfcdmibknmjeaaDoor.Ev
/-! ### what a script without faults is -/
abbrev Dcl := api_Decl.denote
def isV (d : Dcl) : Bool := !(d.1 == (3 : Int)) && !(d.1 == (1 : Int))
def mOf (p : List Dcl) : Names := (p.filter isV).map fun d => (d.2.1, d.1)
def uOf (p : List Dcl) : Names := (p.filter fun d => !(d.1 == (3 : Int)) && (d.1 == (1 : Int))).map fun d => (d.2.1, d.1)
def cOf (p : List Dcl) : List (List ByteArray) := (p.filter fun d => d.1 == (3 : Int)).map pairD
structure Inv (p : List Dcl) (s : Kno) : Prop where
  m : s.m = mOf p
  u : s.u = uOf p
  c : s.c.map Prod.fst = cOf p
theorem setM_new {k v : Ty} {x : k.denote} {y : v.denote} : ∀ {l : List (k.denote × v.denote)}, hasM k v x l = false → setM k v x y l = l ++ [(x, y)]
  | [], _ => rfl
  | p :: l, h => by
    unfold hasM at h
    unfold setM
    cases hc : eqv k x p.1 with
    | true => rw [hc] at h; cases h
    | false => rw [hc] at h; show p :: setM k v x y l = _; rw [setM_new h]; rfl
theorem inv_nil : Inv [] ⟨[], [], []⟩ := ⟨rfl, rfl, rfl⟩
theorem mOf_snoc (p : List Dcl) (d : Dcl) : mOf (p ++ [d]) = bif isV d then mOf p ++ [(d.2.1, d.1)] else mOf p := by
  unfold mOf
  rw [List.filter_append]
  cases h : isV d <;> simp [h]
theorem uOf_snoc (p : List Dcl) (d : Dcl) : uOf (p ++ [d]) = bif (!(d.1 == (3 : Int)) && (d.1 == (1 : Int))) then uOf p ++ [(d.2.1, d.1)] else uOf p := by
  unfold uOf
  rw [List.filter_append]
  cases h : (!(d.1 == (3 : Int)) && (d.1 == (1 : Int))) <;> simp [h]
theorem cOf_snoc (p : List Dcl) (d : Dcl) : cOf (p ++ [d]) = bif d.1 == (3 : Int) then cOf p ++ [pairD d] else cOf p := by
  unfold cOf
  rw [List.filter_append]
  cases h : (d.1 == (3 : Int)) <;> simp [h]
/-- no fault: the state is that of one declaration more -/
theorem inv_snoc {p : List Dcl} {s : Kno} {d : Dcl} (h : Inv p s) (hf : (askD s d).2.1 = (0 : Int)) : Inv (p ++ [d]) (askD s d).1 := by
  unfold askD at hf ⊢
  cases h3 : (d.1 == (3 : Int)) with
  | true =>
    rw [h3] at hf
    have hf : (faultD (covD s.m s.c d).2 (atD d)).1 = (0 : Int) := hf
    refine ⟨?_, ?_, ?_⟩
    · rw [mOf_snoc]; unfold isV; rw [h3]; exact h.m
    · rw [uOf_snoc, h3]; exact h.u
    · rw [cOf_snoc, h3]
      show (covD s.m s.c d).1.map Prod.fst = cOf p ++ [pairD d]
      revert hf
      unfold covD
      cases (lookM .str (.int .i64) d.2.1 s.m != (2 : Int)) with
      | true => intro hf; cases hf
      | false => cases (lookM .str (.int .i64) d.2.2.1 s.m != (2 : Int)) with
        | true => intro hf; cases hf
        | false => cases hh : hasM T81 (.int .i64) (pairD d) s.c with
          | true => intro hf; cases hf
          | false => cases strEq (mnS d.2.1 d.2.2.1) (mxS d.2.1 d.2.2.1) with
            | true => intro hf; cases hf
            | false =>
              intro _
              show (setM T81 (.int .i64) (pairD d) _ s.c).map Prod.fst = _
              rw [setM_new hh, List.map_append, h.c]
              rfl
  | false => cases h1 : (d.1 == (1 : Int)) with
    | true =>
      rw [h3, h1] at hf
      cases hh : hasM .str (.int .i64) d.2.1 s.u with
      | true => rw [hh] at hf; cases hf
      | false =>
        refine ⟨?_, ?_, ?_⟩
        · rw [mOf_snoc]; unfold isV; rw [h3, h1]; exact h.m
        · rw [uOf_snoc, h3, h1]
          show setM .str (.int .i64) d.2.1 d.1 s.u = _
          rw [setM_new hh, h.u]; rfl
        · rw [cOf_snoc, h3]; exact h.c
    | false =>
      rw [h3, h1] at hf
      cases hh : hasM .str (.int .i64) d.2.1 s.m with
      | true => rw [hh] at hf; cases hf
      | false =>
        refine ⟨?_, ?_, ?_⟩
        · rw [mOf_snoc]; unfold isV; rw [h3, h1]
          show setM .str (.int .i64) d.2.1 d.1 s.m = _
          rw [setM_new hh, h.m]; rfl
        · rw [uOf_snoc, h3, h1]; exact h.u
        · rw [cOf_snoc, h3]; exact h.c
/-- without faults: at each place the state is that of what is ahead, and there is none there -/
theorem inv_at : ∀ (l p : List Dcl) (s : Kno), Inv p s → checkL s l = none → ∀ (i : Nat) (hi : i < l.length), ∃ s', Inv (p ++ l.take i) s' ∧ (askD s' l[i]).2.1 = (0 : Int)
  | d :: l, p, s, h, hn, i, hi => by
    rw [checkL] at hn
    cases hc : (askD s d).2.1 != (0 : Int) with
    | true => rw [hc] at hn; cases hn
    | false =>
      rw [hc] at hn
      have hc : (askD s d).2.1 = (0 : Int) := by simpa using hc
      cases i with
      | zero => exact ⟨s, by simpa using h, hc⟩
      | succ i =>
        obtain ⟨s', k1, k2⟩ := inv_at l (p ++ [d]) _ (inv_snoc h hc) hn i (by simpa using hi)
        exact ⟨s', by simpa using k1, by simpa using k2⟩
theorem inv_end : ∀ (l p : List Dcl) (s : Kno), Inv p s → checkL s l = none → ∃ s', Inv (p ++ l) s' ∧ ∀ q, checkL s (l ++ q) = checkL s' q
  | [], p, s, h, _ => ⟨s, by simpa using h, fun _ => rfl⟩
  | d :: l, p, s, h, hn => by
    rw [checkL] at hn
    cases hc : (askD s d).2.1 != (0 : Int) with
    | true => rw [hc] at hn; cases hn
    | false =>
      rw [hc] at hn
      obtain ⟨s', k1, k2⟩ := inv_end l (p ++ [d]) _ (inv_snoc h (by simpa using hc)) hn
      exact ⟨s', by simpa using k1, fun q => by rw [List.cons_append, checkL, hc]; exact k2 q⟩
theorem strEq_iff {a b : ByteArray} : strEq a b = true ↔ a.toList = b.toList := by simp [strEq]
theorem hasM_iff {x : ByteArray} : ∀ {l : Names}, hasM .str (.int .i64) x l = true ↔ ∃ p ∈ l, strEq x p.1 = true
  | [] => by simp [hasM]
  | p :: l => by
    unfold hasM
    show _root_.cond (strEq x p.1) _ _ = true ↔ _
    cases hc : strEq x p.1 with
    | true => simp [hc]
    | false => simp [hc, hasM_iff (l := l)]
theorem lookM_some {x : ByteArray} {v : Int} (hv : v ≠ 0) : ∀ {l : Names}, lookM .str (.int .i64) x l = v → ∃ p ∈ l, strEq x p.1 = true ∧ p.2 = v
  | [], h => absurd h.symm hv
  | p :: l, h => by
    unfold lookM at h
    have h : _root_.cond (strEq x p.1) p.2 (lookM .str (.int .i64) x l) = v := h
    cases hc : strEq x p.1 with
    | true => rw [hc] at h; exact ⟨p, by simp, hc, h⟩
    | false =>
      rw [hc] at h
      obtain ⟨q, h1, h2⟩ := lookM_some hv h
      exact ⟨q, List.mem_cons_of_mem _ h1, h2⟩
/-- names of the one kind are different -/
theorem uniq {l : List Dcl} (h : checkL ⟨[], [], []⟩ l = none) {a b : Nat} (hab : a < b) (hb : b < l.length) (ha : isV (l[a]'(by omega)) = true) (hv : isV l[b] = true) : strEq l[b].2.1 (l[a]'(by omega)).2.1 = false := by
  obtain ⟨s, hi, hf⟩ := inv_at l [] _ inv_nil h b hb
  cases hs : strEq l[b].2.1 (l[a]'(by omega)).2.1 with
  | false => rfl
  | true =>
    exfalso
    have hm : hasM .str (.int .i64) l[b].2.1 s.m = true := by
      rw [hi.m, hasM_iff]
      refine ⟨((l[a]'(by omega)).2.1, (l[a]'(by omega)).1), ?_, hs⟩
      unfold mOf
      refine List.mem_map.2 ⟨l[a]'(by omega), List.mem_filter.2 ⟨?_, ha⟩, rfl⟩
      simp only [List.nil_append]
      exact List.mem_take_iff_getElem.2 ⟨a, by omega, rfl⟩
    unfold isV at hv
    simp only [Bool.and_eq_true, Bool.not_eq_true'] at hv
    unfold askD at hf
    rw [hv.1, hv.2, hm] at hf
    cases hf
end Go.Proofs.YtlfcdmibknmjeaaDoor.E
