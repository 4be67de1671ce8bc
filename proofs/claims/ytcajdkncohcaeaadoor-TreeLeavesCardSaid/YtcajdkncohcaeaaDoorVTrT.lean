import Derived.Test.YtcajdkncohcaeaaDoorVTrS
import Derived.Test.YtcajdkncohcaeaaDoorVGTree10
namespace Go.Proofs.YtcajdkncohcaeaaDoor
set_option linter.unusedVariables false
set_option linter.unusedSimpArgs false
open Go.RowKit Go.Proofs.YtcajdkncohcaeaaDoorW.PrintWords Go.Proofs.YtcajdkncohcaeaaDoorW.PrintMore
open GTree (S52 k52 rd_T52)
namespace GTree
/-- the trees that lie finished side by side before i, the last first -/
inductive Chain (out : List Int) : Int → List Int → Prop
  | nil : Chain out 0 []
  | cons {i : Int} {S : List Int} (h0 : 0 < i) (h : Chain out (rd out (i - 1)) S) : Chain out i ((i - 1) :: S)
theorem chain_lt {out : List Int} (hf : fromOk out) {i : Int} {S : List Int} (h : Chain out i S) : i ≤ (out.length : Int) → ∀ s ∈ S, 0 ≤ s ∧ s < i := by
  induction h with
  | nil => intro _ s hs; simp at hs
  | @cons i S h0 h ih =>
    intro hi s hs
    have q := fromOk_rd hf (i := i - 1) (by omega) (by omega)
    rcases List.mem_cons.1 hs with rfl | hs
    · omega
    · have := ih (by omega) s hs; omega
theorem chain_snoc {out : List Int} (hf : fromOk out) (b : Int) {i : Int} {S : List Int} (h : Chain out i S) : i ≤ (out.length : Int) → Chain (out ++ [b]) i S := by
  induction h with
  | nil => intro _; exact .nil
  | @cons i S h0 h ih =>
    intro hi
    have q := fromOk_rd hf (i := i - 1) (by omega) (by omega)
    refine .cons h0 ?_
    rw [rd_left _ _ _ (by omega) (by omega)]
    exact ih (by omega)
theorem chain_pop {out : List Int} {i : Int} {S : List Int} (h : Chain out i S) (h0 : 0 < i) : ∃ S0, S = (i - 1) :: S0 ∧ Chain out (rd out (i - 1)) S0 := by
  cases h with
  | nil => omega
  | cons h0 h => exact ⟨_, rfl, h⟩
theorem rd_set (cnt : List Int) (a v j : Int) (h0 : 0 ≤ a) (ha : a < (cnt.length : Int)) (hj : 0 ≤ j) : rd (cnt.set a.toNat v) j = if j = a then v else rd cnt j := by
  unfold rd
  rw [List.getD_eq_getElem?_getD, List.getElem?_set, List.getD_eq_getElem?_getD]
  by_cases e : j = a
  · subst e; rw [if_pos rfl, if_pos (by omega), if_pos rfl]; rfl
  · rw [if_neg (by omega), if_neg e]
structure Inv (n : Nat) (i : Nat) (out S cnt : List Int) : Prop where
  len : cnt.length = n
  ch : Chain out (i : Int) S
  at_ : ∀ j : Int, 0 ≤ j → j < (n : Int) → (j ∈ S ∨ (i : Int) ≤ j → rd cnt j = 0) ∧ (¬ (j ∈ S ∨ (i : Int) ≤ j) → rd cnt j = 1)
theorem leaves_loop (L : List S52) (hL : L.length ≤ 6000) (C : Nat) : ∀ (d i : Nat) (out S cnt : List Int) (lv bn : Int), L.length - i = d → i ≤ L.length → out.length = i → fromOk out → runs (L.drop i) out → Inv L.length i out S cnt → lv = bn + (S.length : Int) → 0 ≤ bn → bn ≤ (i : Int) → S.length ≤ i →
    ∃ (S' cnt' : List Int) (lv' bn' : Int), steelyardlaw14_TreeLeaves.l0 (C + 2 * d) L lv bn cnt (i : Int) = steelyardlaw14_TreeLeaves.l0 C L lv' bn' cnt' (L.length : Int) ∧ Inv L.length L.length (refBegin (L.drop i) out) S' cnt' ∧ lv' = bn' + (S'.length : Int) ∧ 0 ≤ bn' ∧ bn' ≤ (L.length : Int) := by
  intro d
  induction d with
  | zero =>
    intro i out S cnt lv bn hd hi ho hf hr hI hl hb0 hb1 hS
    obtain rfl : i = L.length := by omega
    rw [List.drop_eq_nil_of_le (Nat.le_refl _)]
    exact ⟨S, cnt, lv, bn, rfl, hI, hl, hb0, hb1⟩
  | succ d ih =>
    intro i out S cnt lv bn hd hi ho hf hr hI hl hb0 hb1 hS
    rw [drop_rd L i (by omega)] at hr ⊢
    obtain ⟨b, h1, h2, h3⟩ := run_cons hr
    rw [h3, show C + 2 * (d + 1) = (C + 2 * d) + 1 + 1 by omega, steelyardlaw14_TreeLeaves.l0, if_pos (by omega), if_pos (by omega)]
    have hj2 : ∀ c, steelyardlaw14_TreeLeaves.j2 (C + 2 * d + 1) L lv bn cnt (i : Int) c = if c = true then (steelyardlaw14_TreeLeaves.l0 (C + 2 * d) L (wrap64 (lv + 1)) bn cnt (wrap64 ((i : Int) + 1))) else (if 0 ≤ (i : Int) then (if (i : Int) < (L.length : Int) then ((steelyardref14_Two.f ((rd_T52 L (i : Int)).f0)).bind fun t418 => (if t418 = true then (if 0 ≤ ((rd_T52 L (i : Int)).f1) then (if ((rd_T52 L (i : Int)).f1) < (cnt.length : Int) then ((some (cnt.set (((rd_T52 L (i : Int)).f1) : Int).toNat (wrap64 ((rd cnt ((rd_T52 L (i : Int)).f1)) + 1)) : List Int)).bind fun y421 => (if 0 ≤ ((rd_T52 L (i : Int)).f2) then (if ((rd_T52 L (i : Int)).f2) < (cnt.length : Int) then (steelyardlaw14_TreeLeaves.l0 (C + 2 * d) L lv (wrap64 (bn + 1)) (y421.set (((rd_T52 L (i : Int)).f2) : Int).toNat (wrap64 ((rd y421 ((rd_T52 L (i : Int)).f2)) + 1))) (wrap64 ((i : Int) + 1))) else (none)) else (none))) else (none)) else (none)) else (if 0 ≤ ((rd_T52 L (i : Int)).f1) then (if ((rd_T52 L (i : Int)).f1) < (cnt.length : Int) then (steelyardlaw14_TreeLeaves.l0 (C + 2 * d) L lv bn (cnt.set (((rd_T52 L (i : Int)).f1) : Int).toNat (wrap64 ((rd cnt ((rd_T52 L (i : Int)).f1)) + 1))) (wrap64 ((i : Int) + 1))) else (none)) else (none)))) else (none)) else (none)) := fun c => by
      rw [steelyardlaw14_TreeLeaves.j2]
    simp only [hj2]
    clear hj2
    generalize rd_T52 L (i : Int) = x at *
    have hst := step_of h1
    have hb := step_range hf hst
    have hf' := fromOk_snoc hf hb.1 hb.2
    have hlt := chain_lt hf hI.ch (by omega)
    have hlast : rd (out ++ [b]) (i : Int) = b := by have := rd_last out b; rwa [ho] at this
    have hnew : ∀ S1 : List Int, Chain out b S1 → Chain (out ++ [b]) ((i + 1 : Nat) : Int) ((i : Int) :: S1) := fun S1 h => by
      have q := Chain.cons (out := out ++ [b]) (i := ((i + 1 : Nat) : Int)) (S := S1) (by omega) (by
        rw [show ((i + 1 : Nat) : Int) - 1 = (i : Int) by omega, hlast]
        exact chain_snoc hf b h (by omega))
      rwa [show ((i + 1 : Nat) : Int) - 1 = (i : Int) by omega] at q
    rw [wrap_succ (i := (i : Int)) (by omega) (by omega)]
    cases hst with
    | leaf hk =>
      have hN : ∃ (S' cnt' : List Int) (lv' bn' : Int), steelyardlaw14_TreeLeaves.l0 (C + 2 * d) L (wrap64 (lv + 1)) bn cnt ((i : Int) + 1) = steelyardlaw14_TreeLeaves.l0 C L lv' bn' cnt' (L.length : Int) ∧ Inv L.length L.length (refBegin (L.drop (i + 1)) (out ++ [(out.length : Int)])) S' cnt' ∧ lv' = bn' + (S'.length : Int) ∧ 0 ≤ bn' ∧ bn' ≤ (L.length : Int) := by
        rw [wrap_succ (by omega) (by omega)]
        refine ih (i + 1) (out ++ [(out.length : Int)]) ((i : Int) :: S) cnt (lv + 1) bn (by omega) (by omega) (by simp; omega) hf' h2 ⟨hI.len, hnew S (by rw [ho]; exact hI.ch), fun j p q => ?_⟩ (by rw [List.length_cons]; omega) hb0 (by omega) (by rw [List.length_cons]; omega)
        have a := hI.at_ j p q
        rw [show (j ∈ (i : Int) :: S ∨ ((i + 1 : Nat) : Int) ≤ j) ↔ (j ∈ S ∨ (i : Int) ≤ j) from ⟨fun h => by
          rcases h with h | h
          · rcases List.mem_cons.1 h with h | h
            · exact .inr (by omega)
            · exact .inl h
          · exact .inr (by omega), fun h => by
          rcases h with h | h
          · exact .inl (List.mem_cons_of_mem _ h)
          · by_cases e : j = (i : Int)
            · exact .inl (by rw [e]; exact List.mem_cons_self)
            · exact .inr (by omega)⟩]
        exact a
      by_cases hx : x.f0 = 1
      · rw [if_pos hx, if_pos True.intro]; exact hN
      · rw [if_neg hx, show (x.f0 == 2) = true from beq_iff_eq.2 (by omega), if_pos rfl]; exact hN
    | over hk k0 k1 =>
      obtain ⟨S0, rfl, hc0⟩ := chain_pop hI.ch (by omega)
      have c0 := (hI.at_ (i - 1) (by omega) (by omega)).1 (.inl List.mem_cons_self)
      have hS0 := chain_lt hf hc0 (by have := fromOk_rd hf (i := (i : Int) - 1) (by omega) (by omega); omega)
      have hr0 := fromOk_rd hf (i := (i : Int) - 1) (by omega) (by omega)
      have e1 : x.f1 = (i : Int) - 1 := by omega
      have hlen := hI.len
      rw [List.length_cons] at hl hS
      rw [if_neg (by omega), show (x.f0 == 2) = false from beq_eq_false_iff_ne.2 (by omega), if_neg (by decide), if_pos (by omega), if_pos (by omega)]
      unfold steelyardref14_Two.f
      rw [Option.bind_some, (kinds_over hk).1, if_neg (by decide), if_pos (by omega), if_pos (by omega), e1, c0]
      refine ih (i + 1) (out ++ [rd out ((i : Int) - 1)]) ((i : Int) :: S0) _ lv bn (by omega) (by omega) (by simp; omega) (by rw [e1] at hf'; exact hf') (by rw [e1] at h2; exact h2) ⟨by rw [List.length_set]; exact hlen, by rw [e1] at hnew; exact hnew S0 hc0, fun j p q => ?_⟩ (by rw [List.length_cons]; omega) hb0 (by omega) (by rw [List.length_cons]; omega)
      have a := hI.at_ j p q
      rw [rd_set _ _ _ _ (by omega) (by omega) p]
      by_cases e : j = (i : Int) - 1
      · rw [if_pos e]
        refine ⟨fun h => ?_, fun _ => by unfold wrap64; omega⟩
        rcases h with h | h
        · rcases List.mem_cons.1 h with h | h
          · omega
          · have := hS0 _ h; omega
        · omega
      · rw [if_neg e]
        rw [show (j ∈ (i : Int) :: S0 ∨ ((i + 1 : Nat) : Int) ≤ j) ↔ (j ∈ ((i : Int) - 1) :: S0 ∨ (i : Int) ≤ j) from ⟨fun h => by
          rcases h with h | h
          · rcases List.mem_cons.1 h with h | h
            · exact .inr (by omega)
            · exact .inl (List.mem_cons_of_mem _ h)
          · exact .inr (by omega), fun h => by
          rcases h with h | h
          · rcases List.mem_cons.1 h with h | h
            · omega
            · exact .inl (List.mem_cons_of_mem _ h)
          · by_cases e : j = (i : Int)
            · exact .inl (by rw [e]; exact List.mem_cons_self)
            · exact .inr (by omega)⟩]
        exact a
    | two hk k0 k1 k2 k3 =>
      obtain ⟨S0, rfl, hc0⟩ := chain_pop hI.ch (by omega)
      have e2 : x.f2 = (i : Int) - 1 := by omega
      rw [e2] at k2 k3
      have hr0 := fromOk_rd hf (i := (i : Int) - 1) (by omega) (by omega)
      obtain ⟨S1, rfl, hc1⟩ := chain_pop hc0 k2
      rw [← k3] at hc1
      have c0 := (hI.at_ (i - 1) (by omega) (by omega)).1 (.inl List.mem_cons_self)
      have c1 := (hI.at_ x.f1 (by omega) (by omega)).1 (.inl (by rw [k3]; exact List.mem_cons_of_mem _ List.mem_cons_self))
      have hr1 := fromOk_rd hf (i := x.f1) (by omega) (by omega)
      have hS1 := chain_lt hf hc1 (by omega)
      have hlen := hI.len
      rw [List.length_cons, List.length_cons] at hl hS
      rw [if_neg (by omega), show (x.f0 == 2) = false from beq_eq_false_iff_ne.2 (by omega), if_neg (by decide), if_pos (by omega), if_pos (by omega)]
      unfold steelyardref14_Two.f
      rw [Option.bind_some, (twoK_iff _).2 hk, if_pos rfl, if_pos (by omega), if_pos (by omega), Option.bind_some, if_pos (by omega), if_pos (by omega), e2, c1, wrap_succ (i := bn) (by omega) (by omega), rd_set cnt x.f1 _ _ (by omega) (by omega) (by omega), if_neg (by omega), c0]
      refine ih (i + 1) (out ++ [rd out x.f1]) ((i : Int) :: S1) _ lv (bn + 1) (by omega) (by omega) (by simp; omega) hf' h2 ⟨by rw [List.length_set, List.length_set]; exact hlen, hnew S1 hc1, fun j p q => ?_⟩ (by rw [List.length_cons]; omega) (by omega) (by omega) (by rw [List.length_cons]; omega)
      have a := hI.at_ j p q
      rw [rd_set _ _ _ _ (by omega) (by rw [List.length_set]; omega) p, rd_set _ _ _ _ (by omega) (by omega) p]
      by_cases e : j = (i : Int) - 1
      · rw [if_pos e]
        refine ⟨fun h => ?_, fun _ => by unfold wrap64; omega⟩
        rcases h with h | h
        · rcases List.mem_cons.1 h with h | h
          · omega
          · have := hS1 _ h; omega
        · omega
      · rw [if_neg e]
        by_cases e' : j = x.f1
        · rw [if_pos e']
          refine ⟨fun h => ?_, fun _ => by unfold wrap64; omega⟩
          rcases h with h | h
          · rcases List.mem_cons.1 h with h | h
            · omega
            · have := hS1 _ h; omega
          · omega
        · rw [if_neg e']
          rw [show (j ∈ (i : Int) :: S1 ∨ ((i + 1 : Nat) : Int) ≤ j) ↔ (j ∈ ((i : Int) - 1) :: (rd out ((i : Int) - 1) - 1) :: S1 ∨ (i : Int) ≤ j) from ⟨fun h => by
            rcases h with h | h
            · rcases List.mem_cons.1 h with h | h
              · exact .inr (by omega)
              · exact .inl (List.mem_cons_of_mem _ (List.mem_cons_of_mem _ h))
            · exact .inr (by omega), fun h => by
            rcases h with h | h
            · rcases List.mem_cons.1 h with h | h
              · omega
              · rcases List.mem_cons.1 h with h | h
                · omega
                · exact .inl (List.mem_cons_of_mem _ h)
            · by_cases e : j = (i : Int)
              · exact .inl (by rw [e]; exact List.mem_cons_self)
              · exact .inr (by omega)⟩]
          exact a
theorem leaves_end (L : List S52) (hL : L.length ≤ 6000) (hS : okS L) (hg : goodT L = true) (lv bn : Int) (cnt : List Int) (hlv : lv = bn + 1) (hb0 : 0 ≤ bn) (hb1 : bn ≤ 6000) (hlen : cnt.length = L.length)
    (ha : ∀ j : Int, 0 ≤ j → j < (L.length : Int) → (j = (L.length : Int) - 1 → rd cnt j = 0) ∧ (j ≠ (L.length : Int) - 1 → rd cnt j = 1)) (c : Nat) (hc : 2 * L.length + 2 ≤ c) :
    ∀ d i : Nat, L.length - i = d → i ≤ L.length → steelyardlaw14_TreeLeaves.l1 (c + 1 + d) L lv bn cnt (i : Int) = some true := by
  intro d
  induction d with
  | zero =>
    intro i hd hi
    obtain rfl : i = L.length := by omega
    rw [Nat.add_zero, steelyardlaw14_TreeLeaves.l1, if_neg (by omega), wrap_succ (by omega) (by omega), if_pos hlv, deep_eq L hL hS c hc, Option.bind_some]
    obtain ⟨g1, g2, g3, g4⟩ := (goodT_iff L).1 hg
    have hd := deep_ok fromOk_nil dsOk_nil rfl g3
    have := dsOk_rd hd (i := (L.length : Int) - 1) (by omega) (by rw [deepOf_len]; simp; omega)
    unfold deepT
    rw [if_pos hg, if_pos (by omega)]; rfl
  | succ d ih =>
    intro i hd hi
    rw [← Nat.add_assoc, steelyardlaw14_TreeLeaves.l1, if_pos (by omega), if_pos (by omega), wrap_succ (by omega) (by omega)]
    have a := ha (i : Int) (by omega) (by omega)
    by_cases e : (i : Int) = (L.length : Int) - 1
    · rw [a.1 e, show ((0 : Int) == 1) = false from rfl, decide_eq_false (by omega), if_neg (by decide), if_neg (by decide)]
      exact ih (i + 1) (by omega) (by omega)
    · rw [a.2 e, show ((1 : Int) == 1) = true from rfl, decide_eq_true (by omega), if_neg (by decide), if_neg (by decide)]
      exact ih (i + 1) (by omega) (by omega)
theorem treeLeaves_pure (L : List S52) (hL : L.length ≤ 9223372036854775807) : ∃ k, steelyardlaw14_TreeLeaves.f k L = some true := by
  obtain ⟨b, hb, hbs⟩ := large_eq L hL ((L.length + (2 * L.length + 2) + 1 + 1 + 2 * L.length) + 1) (by omega)
  refine ⟨(L.length + (2 * L.length + 2) + 1 + 1 + 2 * L.length) + 1, ?_⟩
  unfold steelyardlaw14_TreeLeaves.f
  rw [hb, Option.bind_some]
  cases b with
  | true => rw [if_pos rfl, steelyardlaw14_TreeLeaves.j0, if_pos rfl]; rfl
  | false =>
    obtain ⟨h6, hS⟩ := hbs rfl
    rw [if_neg (by decide), refgood_eq L (by omega) hS, Option.bind_some, steelyardlaw14_TreeLeaves.j0]
    cases hgo : goodT L with
    | false => rw [if_pos (by rfl)]; rfl
    | true =>
      obtain ⟨g1, g2, g3, g4⟩ := (goodT_iff L).1 hgo
      rw [if_neg (by decide), if_pos (by omega), if_pos (by omega), Int.toNat_natCast]
      obtain ⟨S', cnt', lv', bn', h1, h2, h3, h4, h5⟩ := leaves_loop L h6 (L.length + (2 * L.length + 2) + 1 + 1) L.length 0 [] [] (List.replicate L.length 0) 0 0 (by omega) (by omega) rfl fromOk_nil g3
        ⟨List.length_replicate, .nil, fun j p q => ⟨fun _ => by unfold rd; rw [List.getD_eq_getElem?_getD, List.getElem?_replicate, if_pos (by omega)]; rfl, fun h => absurd (.inr (by omega)) h⟩⟩ rfl (by omega) (by omega) (by simp)
      rw [List.drop_zero] at h2
      have h1' : steelyardlaw14_TreeLeaves.l0 (L.length + (2 * L.length + 2) + 1 + 1 + 2 * L.length) L 0 0 (List.replicate L.length 0) 0 = steelyardlaw14_TreeLeaves.l0 (L.length + (2 * L.length + 2) + 1 + 1) L lv' bn' cnt' (L.length : Int) := h1
      rw [h1', steelyardlaw14_TreeLeaves.l0, if_neg (by omega)]
      obtain ⟨S0, rfl, hc0⟩ := chain_pop h2.ch (by omega)
      rw [g4] at hc0
      have hS0 : S0 = [] := by
        cases hc0 with
        | nil => rfl
        | cons h0 h => omega
      subst hS0
      have := leaves_end L h6 hS hgo lv' bn' cnt' (by simpa using h3) h4 (by omega) h2.len (fun j p q => by
        have a := h2.at_ j p q
        refine ⟨fun e => a.1 (.inl (by rw [e]; exact List.mem_cons_self)), fun e => a.2 (fun h => ?_)⟩
        rcases h with h | h
        · rcases List.mem_cons.1 h with h | h
          · exact e h
          · simp at h
        · omega) (2 * L.length + 2) (by omega) L.length 0 (by omega) (by omega)
      rw [show L.length + (2 * L.length + 2) + 1 = 2 * L.length + 2 + 1 + L.length by omega]
      exact this
end GTree
end Go.Proofs.YtcajdkncohcaeaaDoor
