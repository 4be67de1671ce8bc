import Derived.Test.YtcajdkncohcaeaaDoorZTrP
import Derived.Test.YtcajdkncohcaeaaDoorZGTree9
namespace Go.Proofs.YtcajdkncohcaeaaDoor
set_option linter.unusedVariables false
set_option linter.unusedSimpArgs false
open Go.RowKit Go.Proofs.YtcajdkncohcaeaaDoorW.PrintWords Go.Proofs.YtcajdkncohcaeaaDoorW.PrintMore
open GTree (S52 k52 rd_T52)
namespace GTree
def setA (a : Int) (x : S52) : S52 := ⟨x.f0, x.f1, x.f2, x.f3, x.f4, x.f5, a⟩
theorem refBegin_setA (a : Int) : ∀ (L : List S52) (out : List Int), refBegin (L.map (setA a)) out = refBegin L out
  | [], _ => rfl
  | x :: L, out => by
    rw [List.map_cons, refBegin_cons, refBegin_cons, show refStep out (setA a x) = refStep out x from rfl]
    cases refStep out x with
    | some b => exact refBegin_setA a L (out ++ [b])
    | none => rfl
theorem goodT_setA (a : Int) (L : List S52) : goodT (L.map (setA a)) = goodT L := by
  unfold goodT; rw [List.length_map, refBegin_setA]
theorem okS_setA (a : Int) (L : List S52) (h : okS L) : okS (L.map (setA a)) := by
  intro x hx
  obtain ⟨y, hy, rfl⟩ := List.mem_map.1 hx
  exact h y hy
theorem sameL_setA (a : Int) : ∀ L : List S52, sameL L (L.map (setA a)) = true ∧ sameL (L.map (setA a)) L = true
  | [] => ⟨rfl, rfl⟩
  | x :: L => by
    obtain ⟨h1, h2⟩ := sameL_setA a L
    constructor
    · rw [List.map_cons, sameL, h1]; simp [bareEq, setA]
    · rw [List.map_cons, sameL, h2]; simp [bareEq, setA]
theorem sameL_false : ∀ (L U : List S52) (i : Nat), i < L.length → L.length = U.length → bareEq (rd_T52 L (i : Int)) (rd_T52 U (i : Int)) = false → sameL L U = false
  | [], _, i, h, _, _ => by simp at h
  | x :: L, [], i, _, h, _ => by simp at h
  | x :: L, y :: U, 0, _, _, h => by
    rw [sameL, show bareEq x y = false from h]; rfl
  | x :: L, y :: U, i + 1, h1, h2, h => by
    have e0 : rd_T52 (x :: L) ((i + 1 : Nat) : Int) = rd_T52 L (i : Int) := by unfold rd_T52; rw [Int.toNat_natCast, Int.toNat_natCast]; rfl
    have e1 : rd_T52 (y :: U) ((i + 1 : Nat) : Int) = rd_T52 U (i : Int) := by unfold rd_T52; rw [Int.toNat_natCast, Int.toNat_natCast]; rfl
    rw [e0, e1] at h
    rw [sameL, sameL_false L U i (by simpa using h1) (by simpa using h2) h, Bool.and_false]
theorem ts_j5 (k : Nat) (L U : List S52) (b : Bool) (hl : L.length ≤ 6000) (h : b = true ∨ (L.length = U.length ∧ sameL L U = false)) : steelyardlaw14_TreeSame.j5 (k + 1) L U b = some true := by
  rw [steelyardlaw14_TreeSame.j5]
  rcases h with rfl | ⟨h1, h2⟩
  · rw [if_pos rfl]; rfl
  · cases b with
    | true => rw [if_pos rfl]; rfl
    | false =>
      rw [if_neg (by decide)]
      unfold tree_Same.f sameF
      rw [if_pos (by omega), decide_eq_true h1, h2, Option.bind_some, if_neg (by decide)]; rfl
theorem ts_j4 (k : Nat) (L U : List S52) (i : Int) (hl : L.length ≤ 6000) (h0 : 0 ≤ i) (h1 : i < (L.length : Int)) (hlen : L.length = U.length) : steelyardlaw14_TreeSame.j4 (k + 2) L U i = some true := by
  rw [steelyardlaw14_TreeSame.j4, if_pos h0, if_pos (by omega), if_pos h1]
  have hs : ∀ b : Bool, (b = false → bareEq (rd_T52 L i) (rd_T52 U i) = false) → steelyardlaw14_TreeSame.j5 (k + 1) L U b = some true := fun b hb => by
    refine ts_j5 k L U b hl ?_
    cases b with
    | true => exact .inl rfl
    | false =>
      refine .inr ⟨hlen, sameL_false L U i.toNat (by omega) hlen ?_⟩
      rw [show ((i.toNat : Nat) : Int) = i by omega]
      exact hb rfl
  by_cases e0 : (rd_T52 U i).f0 = (rd_T52 L i).f0
  · rw [if_pos e0]
    by_cases e3 : (rd_T52 U i).f3 = (rd_T52 L i).f3
    · rw [if_pos e3]
      refine hs _ (fun hb => ?_)
      unfold bareEq
      have : ((rd_T52 L i).f4.toList == (rd_T52 U i).f4.toList) = false := by
        rw [beq_eq_false_iff_ne] at hb ⊢; exact fun e => hb e.symm
      rw [this]; simp
    · rw [if_neg e3]
      refine hs _ (fun _ => ?_)
      unfold bareEq
      rw [beq_eq_false_iff_ne.2 (fun e => e3 e.symm)]; simp
  · rw [if_neg e0]
    refine hs _ (fun _ => ?_)
    unfold bareEq
    rw [beq_eq_false_iff_ne.2 (fun e => e0 e.symm)]; rfl
theorem ts_j3 (k : Nat) (L U : List S52) (i c : Int) (b : Bool) (hl : L.length ≤ 6000) (h0 : 0 ≤ i) (h1 : i < (L.length : Int)) (hlen : L.length = U.length) (hsz : (rd_T52 U i).f4.size ≤ 6000) : steelyardlaw14_TreeSame.j3 (k + 3) L U i c b = some true := by
  rw [steelyardlaw14_TreeSame.j3]
  have hj : ∀ y : S52, steelyardlaw14_TreeSame.j4 (k + 2) L (U.set i.toNat y) i = some true := fun y => ts_j4 k L _ i hl h0 h1 (by simpa using hlen)
  have hU : i < (U.length : Int) := by omega
  cases b with
  | true => rw [if_pos rfl, if_pos h0, if_pos hU, if_pos (by omega)]; exact hj _
  | false =>
    rw [if_neg (by decide)]
    simp only [if_pos h0, if_pos hU]
    split
    · exact hj _
    · split
      · exact hj _
      · exact hj _
theorem ts_j2 (k : Nat) (L U : List S52) (n : Int) (hl : L.length ≤ 6000) (h1 : 1 ≤ L.length) (hlen : L.length = U.length) (hn : 0 ≤ n ∧ n ≤ 255) (hS : okS U) : steelyardlaw14_TreeSame.j2 (k + 4) L n U false = some true := by
  rw [steelyardlaw14_TreeSame.j2, if_neg (by decide), if_neg (by omega), show wrap64 n = n by unfold wrap64; omega]
  have t0 : 0 ≤ Int.tmod n (U.length : Int) := Int.tmod_nonneg _ hn.1
  have t1 : Int.tmod n (U.length : Int) < (U.length : Int) := Int.tmod_lt_of_pos _ (by omega)
  generalize Int.tmod n (U.length : Int) = i at *
  have hx := hS _ (rd_mem U i.toNat (by omega))
  rw [show ((i.toNat : Nat) : Int) = i by omega] at hx
  rw [if_pos t0, if_pos t1]
  split
  · exact ts_j3 k L U i _ _ hl t0 (by omega) hlen hx.1
  · exact ts_j3 k L U i _ _ hl t0 (by omega) hlen hx.1
def mixA (a : Int) (L : List S52) (i : Nat) : List S52 := (L.take i).map (setA a) ++ L.drop i
theorem mixA_len (a : Int) (L : List S52) (i : Nat) : (mixA a L i).length = L.length := by
  unfold mixA; rw [List.length_append, List.length_map, List.length_take, List.length_drop]; omega
theorem mixA_rd (a : Int) (L : List S52) (i : Nat) (h : i < L.length) : rd_T52 (mixA a L i) (i : Int) = rd_T52 L (i : Int) := by
  unfold rd_T52 mixA
  rw [Int.toNat_natCast, List.getD_eq_getElem?_getD, List.getD_eq_getElem?_getD, List.getElem?_append_right (by rw [List.length_map, List.length_take]; omega), List.length_map, List.length_take, List.getElem?_drop]
  congr 2; omega
theorem mixA_step (a : Int) (L : List S52) (i : Nat) (h : i < L.length) : (mixA a L i).set i (setA a (rd_T52 L (i : Int))) = mixA a L (i + 1) := by
  unfold mixA
  rw [List.set_append_right _ _ (by rw [List.length_map, List.length_take]; omega), List.length_map, List.length_take, drop_rd L i h, show i - min i L.length = 0 by omega, List.set_cons_zero, List.take_succ_eq_append_getElem h]
  have e : L[i] = rd_T52 L (i : Int) := by unfold rd_T52; rw [Int.toNat_natCast, List.getD_eq_getElem?_getD, List.getElem?_eq_getElem h]; rfl
  rw [e]; simp
theorem ts_loop (L : List S52) (n a : Int) (hl : L.length ≤ 6000) (k : Nat) : ∀ (d i : Nat), L.length - i = d → i ≤ L.length →
    steelyardlaw14_TreeSame.l0 (k + 1 + d) L n a (mixA a L i) (i : Int) = steelyardlaw14_TreeSame.l0 (k + 1) L n a (mixA a L L.length) (L.length : Int) := by
  intro d
  induction d with
  | zero => intro i hd hi; obtain rfl : i = L.length := by omega
            rfl
  | succ d ih =>
    intro i hd hi
    have hlt : i < L.length := by omega
    rw [show k + 1 + (d + 1) = (k + 1 + d) + 1 by omega, steelyardlaw14_TreeSame.l0, if_pos (by rw [mixA_len]; omega), if_pos (by omega), mixA_rd a L i hlt, Int.toNat_natCast, wrap_succ (by omega) (by omega)]
    have := mixA_step a L i hlt
    unfold setA at this
    rw [this]
    exact ih (i + 1) (by omega) (by omega)
theorem treeSame_pure (L : List S52) (hL : L.length ≤ 9223372036854775807) (n a : Int) (hn : 0 ≤ n ∧ n ≤ 255) : ∃ k, steelyardlaw14_TreeSame.f k L n a = some true := by
  obtain ⟨b, hb, hbs⟩ := large_eq L hL (L.length + 6100 + L.length) (by omega)
  refine ⟨L.length + 6100 + L.length, ?_⟩
  unfold steelyardlaw14_TreeSame.f
  rw [hb, Option.bind_some]
  cases b with
  | true =>
    rw [if_pos rfl, show L.length + 6100 + L.length = (L.length + 6099 + L.length) + 1 by omega, steelyardlaw14_TreeSame.j0, if_pos rfl]; rfl
  | false =>
    obtain ⟨h6, hS⟩ := hbs rfl
    rw [if_neg (by decide)]
    have hsm : refSmall L = true := by
      unfold refSmall
      rw [decide_eq_true (by omega), Bool.true_and, List.all_eq_true]
      intro x hx
      have := hS x hx
      rw [decide_eq_true (by omega), decide_eq_true (by omega)]; rfl
    have hg : steelyardref14_Good.f L = some (goodT L) := by
      unfold steelyardref14_Good.f goodT
      by_cases h1 : 1 ≤ L.length
      · rw [if_neg (by omega), decide_eq_true h1, Bool.true_and]
        by_cases h2 : L.length ≤ 2000
        · rw [if_neg (by omega), decide_eq_true h2, Bool.true_and]
          unfold steelyardref14_Begin.f refBeginF goodBg
          rw [if_pos hsm, Option.bind_some]
          by_cases h3 : (refBegin L []).length = L.length
          · rw [if_pos (by omega), wrap_pred (by omega) (by omega), if_pos (by omega), if_pos (by omega), decide_eq_true h3, Bool.true_and]
          · rw [if_neg (by omega), decide_eq_false h3]; rfl
        · rw [if_pos (by omega), decide_eq_false h2]; rfl
      · rw [if_pos (by omega), decide_eq_false h1]; rfl
    rw [hg, Option.bind_some, show L.length + 6100 + L.length = (L.length + 6099 + L.length) + 1 by omega, steelyardlaw14_TreeSame.j0]
    cases hgo : goodT L with
    | false => rw [if_pos (by rfl)]; rfl
    | true =>
      have h1 : 1 ≤ L.length := by
        unfold goodT at hgo
        rw [Bool.and_eq_true, decide_eq_true_eq] at hgo
        exact hgo.1
      rw [if_neg (by decide)]
      unfold steelyardkeep_OwnTree.f
      rw [Option.bind_some, if_pos (by simp; omega), Option.bind_some, List.nil_append]
      have hloop := ts_loop L n a h6 (L.length + 6098) L.length 0 (by omega) (by omega)
      rw [show mixA a L 0 = L from rfl, show L.length + 6098 + 1 + L.length = L.length + 6099 + L.length by omega] at hloop
      have hm : mixA a L L.length = L.map (setA a) := by unfold mixA; rw [List.take_length, List.drop_length, List.append_nil]
      rw [hm] at hloop
      have hc : ((0 : Nat) : Int) = 0 := rfl
      rw [hc] at hloop
      rw [hloop, steelyardlaw14_TreeSame.l0, if_neg (by rw [List.length_map]; omega)]
      obtain ⟨q1, q2⟩ := sameL_setA a L
      unfold tree_Same.f sameF
      rw [if_pos (by omega), decide_eq_true (by rw [List.length_map]), q1, Option.bind_some, show (true && true) = true from rfl, if_pos rfl, if_pos (by rw [List.length_map]; omega), decide_eq_true (by rw [List.length_map]), q2, Option.bind_some, show (true && true) = true from rfl, if_pos rfl,
        good_eq (L.map (setA a)) (by rw [List.length_map]; omega) (okS_setA a L hS) (L.length + 6098) (by rw [List.length_map]; omega), Option.bind_some, goodT_setA, hgo]
      exact ts_j2 (L.length + 6094) L _ n h6 h1 (by rw [List.length_map]) hn (okS_setA a L hS)
end GTree
end Go.Proofs.YtcajdkncohcaeaaDoor
