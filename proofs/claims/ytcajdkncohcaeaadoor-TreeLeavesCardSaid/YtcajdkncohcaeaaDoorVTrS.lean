import Derived.Test.YtcajdkncohcaeaaDoorVTrR
import Derived.Test.YtcajdkncohcaeaaDoorVGTree4
import Derived.Test.YtcajdkncohcaeaaDoorVGTree6
namespace Go.Proofs.YtcajdkncohcaeaaDoor
set_option linter.unusedVariables false
set_option linter.unusedSimpArgs false
open Go.RowKit Go.Proofs.YtcajdkncohcaeaaDoorW.PrintWords Go.Proofs.YtcajdkncohcaeaaDoorW.PrintMore
open GTree (S52 k52 rd_T52)
namespace GTree
theorem kinds_of {x : S52} (h : x.f0 = 1 ∨ x.f0 = 2) : twoK x.f0 = false ∧ isOver x.f0 = false := ⟨Bool.eq_false_iff.2 (fun h => by have := (twoK_iff _).1 h; omega), Bool.eq_false_iff.2 (fun h => by have := (isOver_iff _).1 h; omega)⟩
theorem kinds_over {x : S52} (h : x.f0 = 7 ∨ x.f0 = 8) : twoK x.f0 = false ∧ isOver x.f0 = true := ⟨Bool.eq_false_iff.2 (fun h => by have := (twoK_iff _).1 h; omega), (isOver_iff _).2 h⟩
theorem dstep_leaf {ds : List Int} {x : S52} (h : x.f0 = 1 ∨ x.f0 = 2) : dstep ds x = 1 := by
  obtain ⟨e2, e3⟩ := kinds_of h
  unfold dstep; rw [if_neg (by rw [e2]; decide), if_neg (by rw [e3]; decide)]
theorem dstep_over {ds : List Int} {x : S52} (h : x.f0 = 7 ∨ x.f0 = 8) : dstep ds x = 1 + rd ds x.f1 := by
  obtain ⟨e2, e3⟩ := kinds_over h
  unfold dstep; rw [if_neg (by rw [e2]; decide), if_pos e3]
theorem dstep_two {ds : List Int} {x : S52} (h : 3 ≤ x.f0 ∧ x.f0 ≤ 6) : dstep ds x = 1 + mx (rd ds x.f1) (rd ds x.f2) := by
  unfold dstep; rw [if_pos ((twoK_iff _).2 h)]
theorem wrapN {i : Int} (h0 : -9223372036854775808 ≤ i) (h : i < 9223372036854775808) : wrap64 i = i := by unfold wrap64; omega
theorem set_mid (ds R : List Int) (a b : Int) : ((ds ++ [a]) ++ R).set ds.length b = (ds ++ [b]) ++ R := by
  rw [List.append_assoc, List.set_append_right _ _ (Nat.le_refl _), Nat.sub_self, List.append_assoc]; rfl
theorem set_zero (ds : List Int) (m : Nat) (b : Int) : (ds ++ List.replicate (m + 1) 0).set ds.length b = (ds ++ [b]) ++ List.replicate m 0 := by
  rw [List.set_append_right _ _ (Nat.le_refl _), Nat.sub_self, List.append_assoc]; rfl
theorem rd_two (ds R : List Int) (a i : Int) (h0 : 0 ≤ i) (h1 : i < (ds.length : Int)) : rd ((ds ++ [a]) ++ R) i = rd ds i := by
  rw [rd_left _ _ i h0 (by rw [List.length_append, List.length_singleton]; omega), rd_left _ _ i h0 h1]
theorem deep_loop (L : List S52) (hL : L.length ≤ 6000) (hL1 : 1 ≤ L.length) : ∀ (d k i : Nat) (out ds : List Int), L.length - i ≤ d → 2 * d < k → i ≤ L.length → out.length = i → ds.length = i → fromOk out → dsOk ds → runs (L.drop i) out →
    tree_Deep.l0 k L (ds ++ List.replicate (L.length - i) 0) L (L.length : Int) (i : Int) = some (rd (deepOf (L.drop i) ds) ((L.length : Int) - 1)) := by
  intro d
  induction d with
  | zero =>
    intro k i out ds hd hk hi ho hl hf hs hr
    obtain ⟨k, rfl⟩ : ∃ m, k = m + 1 := ⟨k - 1, by omega⟩
    obtain rfl : i = L.length := by omega
    rw [tree_Deep.l0, if_neg (by omega), List.drop_eq_nil_of_le (Nat.le_refl _), Nat.sub_self, List.replicate_zero, List.append_nil, wrapN (by omega) (by omega), if_pos (by omega), if_pos (by omega)]; rfl
  | succ d ih =>
    intro k i out ds hd hk hi ho hl hf hs hr
    obtain ⟨k, rfl⟩ : ∃ m, k = m + 1 + 1 := ⟨k - 2, by omega⟩
    by_cases he : i = L.length
    · subst he
      rw [tree_Deep.l0, if_neg (by omega), List.drop_eq_nil_of_le (Nat.le_refl _), Nat.sub_self, List.replicate_zero, List.append_nil, wrapN (by omega) (by omega), if_pos (by omega), if_pos (by omega)]; rfl
    · obtain ⟨m, hm⟩ : ∃ m, L.length - i = m + 1 := ⟨L.length - i - 1, by omega⟩
      rw [drop_rd L i (by omega)] at hr ⊢
      obtain ⟨b, h1, h2, h3⟩ := run_cons hr
      have hz : ∀ v : Int, (ds ++ List.replicate (L.length - i) 0).set (i : Int).toNat v = (ds ++ [v]) ++ List.replicate m 0 := fun v => by rw [hm, Int.toNat_natCast, ← hl, set_zero]
      have hq : ∀ u v : Int, ((ds ++ [u]) ++ List.replicate m 0).set (i : Int).toNat v = (ds ++ [v]) ++ List.replicate m 0 := fun u v => by rw [Int.toNat_natCast, ← hl, set_mid]
      have hlen : ∀ u : Int, (((ds ++ [u]) ++ List.replicate m 0).length : Int) = (L.length : Int) := fun u => by simp; omega
      have hrd : ∀ u j : Int, 0 ≤ j → j < (i : Int) → rd ((ds ++ [u]) ++ List.replicate m 0) j = rd ds j := fun u j p q => rd_two ds _ u j p (by omega)
      rw [tree_Deep.l0, if_pos (by omega), if_pos (by omega), if_pos (by omega), if_pos (by simp; omega), Option.bind_some, hz]
      generalize rd_T52 L (i : Int) = x at *
      have hst := step_of h1
      have hb := step_range hf hst
      have hd1 := dstep_ok hf hs (by omega) hst
      have hN := ih k (i + 1) (out ++ [b]) (ds ++ [dstep ds x]) (by omega) (by omega) (by omega) (by simp; omega) (by simp; omega) (fromOk_snoc hf hb.1 hb.2) (dsOk_snoc hs hd1.1 hd1.2) h2
      rw [show L.length - (i + 1) = m by omega] at hN
      rw [show deepOf (x :: L.drop (i + 1)) ds = deepOf (L.drop (i + 1)) (ds ++ [dstep ds x]) from rfl, ← hN]
      rcases step_kids hf hst with hk | ⟨hk, k1, k2⟩ | ⟨hk, k1, k2, k3, k4⟩
      · have hx39 : ∀ c, c = true → tree_Deep.j1 (k + 1) L ((ds ++ [1]) ++ List.replicate m 0) (i : Int) L (L.length : Int) (i : Int) x.f0 c x.f0 x.f1 x.f2 x.f3 x.f4 x.f5 x.f6 = tree_Deep.l0 k L ((ds ++ [1]) ++ List.replicate m 0) L (L.length : Int) (((i + 1 : Nat)) : Int) := by
          rintro c rfl
          rw [tree_Deep.j1, if_pos rfl, wrap_succ (by omega) (by omega)]; rfl
        rw [dstep_leaf hk]
        by_cases h1 : x.f0 = 1
        · rw [if_pos h1]; exact hx39 _ (by rw [h1]; rfl)
        · rw [if_neg h1]; exact hx39 _ (by rw [show x.f0 = 2 by omega]; rfl)
      · have q := dsOk_rd hs k1 (by omega)
        rw [dstep_over hk] at hd1 ⊢
        rw [if_neg (by omega), show (x.f0 == 2) = false from beq_eq_false_iff_ne.2 (by omega), tree_Deep.j1, if_neg (by decide), hlen, hrd _ _ k1 (by omega), hq, wrapN (by omega) (by omega), wrap_succ (by omega) (by omega)]
        by_cases h7 : x.f0 = 7
        · rw [if_pos h7, if_pos k1, if_pos (by omega), if_pos (by omega), if_pos (by omega)]; rfl
        · rw [if_neg h7, if_pos (by omega), if_pos k1, if_pos (by omega), if_pos (by omega), if_pos (by omega)]; rfl
      · rw [dstep_two hk] at hd1 ⊢
        rw [if_neg (by omega), show (x.f0 == 2) = false from beq_eq_false_iff_ne.2 (by omega), tree_Deep.j1, if_neg (by decide), hlen, hrd _ _ k1 (by omega), hrd _ _ k3 (by omega), wrapN (i := 1 + mx (rd ds x.f1) (rd ds x.f2)) (by omega) (by omega), wrap_succ (by omega) (by omega),
          if_neg (by omega), if_neg (by omega), if_pos k1, if_pos (by omega), if_pos k3, if_pos (by omega), if_pos (by omega), if_pos (by omega), hq]; rfl
def deepT (L : List S52) : Int := if goodT L = true then rd (deepOf L []) ((L.length : Int) - 1) else 0
theorem deep_eq (L : List S52) (hL : L.length ≤ 6000) (hS : okS L) (k : Nat) (hk : 2 * L.length + 2 ≤ k) : tree_Deep.f k L = some (deepT L) := by
  unfold tree_Deep.f deepT
  rw [good_eq L hL hS k (by omega), Option.bind_some]
  by_cases hg : goodT L = true
  · obtain ⟨g1, g2, g3, g4⟩ := (goodT_iff L).1 hg
    have := deep_loop L hL g1 L.length k 0 [] [] (by omega) (by omega) (by omega) rfl rfl fromOk_nil dsOk_nil g3
    rw [Nat.sub_zero, List.nil_append, List.drop_zero] at this
    rw [if_pos hg, if_pos hg, if_pos (by omega), if_pos (by omega), Int.toNat_natCast]
    exact this
  · rw [if_neg hg, if_neg hg]
theorem refgood_eq (L : List S52) (hl : L.length < 1000000) (hS : okS L) : steelyardref14_Good.f L = some (goodT L) := by
  have hsm : refSmall L = true := by
    unfold refSmall
    rw [decide_eq_true hl, Bool.true_and, List.all_eq_true]
    intro x hx
    have := hS x hx
    rw [decide_eq_true (by omega), decide_eq_true (by omega)]; rfl
  unfold steelyardref14_Good.f goodT
  by_cases h1 : 1 ≤ L.length
  · rw [if_neg (by omega), decide_eq_true h1, Bool.true_and]
    by_cases h2 : L.length ≤ 2000
    · rw [if_neg (by omega), decide_eq_true h2, Bool.true_and]
      unfold steelyardref14_Begin.f refBeginF goodBg
      rw [if_pos hsm, Option.bind_some]
      by_cases h3 : (refBegin L []).length = L.length
      · rw [if_pos (by omega), wrap_pred (by omega) (by omega), if_pos (by omega), if_pos (by omega), decide_eq_true h3, Bool.true_and]
      · rw [if_neg (by omega), decide_eq_false h3]; rfl
    · rw [if_pos (by omega), decide_eq_false h2]; rfl
  · rw [if_pos (by omega), decide_eq_false h1]; rfl
end GTree
end Go.Proofs.YtcajdkncohcaeaaDoor
