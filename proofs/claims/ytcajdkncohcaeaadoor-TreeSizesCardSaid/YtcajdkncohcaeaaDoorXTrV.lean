import Derived.Test.YtcajdkncohcaeaaDoorXTrU
import Derived.Test.YtcajdkncohcaeaaDoorXGTree8
namespace Go.Proofs.YtcajdkncohcaeaaDoor
set_option linter.unusedVariables false
set_option linter.unusedSimpArgs false
open Go.RowKit Go.Proofs.YtcajdkncohcaeaaDoorW.PrintWords Go.Proofs.YtcajdkncohcaeaaDoorW.PrintMore
open GTree (S52 k52 rd_T52)
namespace GTree
theorem treeSizes_pure (L M : List S52) (hL : L.length ≤ 9223372036854775807) (hM : M.length ≤ 9223372036854775807) (a : Int) : ∃ k, steelyardlaw14_TreeSizes.f k L M a = some true := by
  obtain ⟨b, hb, hbs⟩ := large_eq L hL (L.length + M.length + 60000 + 1 + 1 + 1) (by omega)
  obtain ⟨c, hc, hcs⟩ := large_eq M hM (L.length + M.length + 60000 + 1 + 1 + 1) (by omega)
  refine ⟨L.length + M.length + 60000 + 1 + 1 + 1, ?_⟩
  generalize hK : L.length + M.length + 60000 = K at *
  have hj0 : ∀ x, x = true → steelyardlaw14_TreeSizes.j0 (K + 1 + 1 + 1) L M a x = some true := by rintro x rfl; rw [steelyardlaw14_TreeSizes.j0, if_pos rfl]; rfl
  unfold steelyardlaw14_TreeSizes.f
  rw [hb, Option.bind_some]
  cases b with
  | true => rw [if_pos rfl]; exact hj0 _ rfl
  | false =>
    obtain ⟨h6, hSL⟩ := hbs rfl
    rw [if_neg (by decide), hc, Option.bind_some]
    cases c with
    | true => rw [if_pos rfl]; exact hj0 _ rfl
    | false =>
      obtain ⟨h6', hSM⟩ := hcs rfl
      rw [if_neg (by decide), refgood_eq L (by omega) hSL, Option.bind_some]
      cases gL : goodT L with
      | false => rw [if_neg (by decide)]; exact hj0 _ rfl
      | true =>
        rw [if_pos rfl, refgood_eq M (by omega) hSM, Option.bind_some]
        cases gM : goodT M with
        | false => rw [if_neg (by decide)]; exact hj0 _ rfl
        | true =>
          rw [if_pos rfl, wrapN (by omega) (by omega)]
          by_cases hs : (L.length : Int) + (M.length : Int) > 1000
          · rw [decide_eq_true hs]; exact hj0 _ rfl
          · obtain ⟨l1, l2, l3, l4⟩ := (goodT_iff L).1 gL
            obtain ⟨m1, m2, m3, m4⟩ := (goodT_iff M).1 gM
            have t1 : -65 < Int.tmod (wrap64 a) 65 := by
              have := Int.lt_tmod_of_pos (wrap64 a) (show (0 : Int) < 65 by decide)
              omega
            have t2 : Int.tmod (wrap64 a) 65 < 65 := Int.tmod_lt_of_pos _ (by decide)
            obtain ⟨jg, jd⟩ := join_good (a := 4) (by omega) gL gM (by omega)
            obtain ⟨ng, nd⟩ := over_good (a := 7) (v := 0) (.inl ⟨rfl, rfl⟩) gL (by omega)
            obtain ⟨pg, pd⟩ := over_good (a := 8) (v := Int.tmod (wrap64 a) 65) (.inr ⟨rfl, by omega, by omega⟩) gM (by omega)
            have jl := joinT_len 4 L M
            have nl := overT_len 7 0 L
            have pl := overT_len 8 (Int.tmod (wrap64 a) 65) M
            have js := okS_join (a := 4) hSL hSM
            have ns := okS_over (a := 7) (v := 0) hSL
            have ps := okS_over (a := 8) (v := Int.tmod (wrap64 a) 65) hSM
            rw [decide_eq_false hs, steelyardlaw14_TreeSizes.j0, if_neg (by decide), join_eq 4 L M h6 h6' hSL hSM _ (by omega), Option.bind_some, neg_eq L h6 hSL _ (by omega), Option.bind_some, pow_eq _ M h6' hSM _ (by omega), Option.bind_some,
              if_pos (show ((3 : Int) ≤ 4 ∧ (4 : Int) ≤ 6) ∧ goodT L = true ∧ goodT M = true from ⟨⟨by decide, by decide⟩, gL, gM⟩), if_pos gL, if_pos gM]
            unfold toldT
            rw [if_pos jg, if_pos ng, if_pos pg]
            simp only [if_true]
            rw [jl, nl, pl, wrapN (i := (L.length : Int) + (M.length : Int)) (by omega) (by omega), wrapN (by omega) (by omega), wrapN (by omega) (by omega), wrapN (by omega) (by omega), if_pos (by omega), if_pos (by omega), if_pos (by omega),
              good_eq _ (by omega) js _ (by omega), Option.bind_some, jg, if_pos rfl, good_eq _ (by omega) ns _ (by omega), Option.bind_some, ng, if_pos rfl, good_eq _ (by omega) ps _ (by omega), Option.bind_some, pg]
            have k1 : (joinT 4 L M).take ((L.length : Int) : Int).toNat = L := by
              unfold joinT sideT
              rw [Int.toNat_natCast, List.append_assoc, List.take_left]
            have k2 : (overT 7 0 L).take ((L.length : Int) : Int).toNat = L := by
              unfold overT
              rw [Int.toNat_natCast, List.take_left]
            have k3 : (overT 8 (Int.tmod (wrap64 a) 65) M).take ((M.length : Int) : Int).toNat = M := by
              unfold overT
              rw [Int.toNat_natCast, List.take_left]
            have k4 : (joinT 4 L M).take (((L.length + M.length + 1 : Nat) : Int) - 1).toNat = sideT L M := by
              unfold joinT
              rw [show (((L.length + M.length + 1 : Nat) : Int) - 1).toNat = (sideT L M).length by rw [sideT_len]; omega, List.take_left]
            have sb := side_bad gL gM (by omega)
            rw [steelyardlaw14_TreeSizes.j1, if_neg (by decide), jl, nl, pl, if_pos (by omega), if_pos (by omega), k1, keep_refl L (by omega) _ (by omega), Option.bind_some, if_pos rfl, if_pos (by omega), k2, keep_refl L (by omega) _ (by omega), Option.bind_some, if_pos rfl,
              if_pos (by omega), if_pos (by omega), k3, keep_refl M (by omega) _ (by omega), Option.bind_some, if_pos rfl, wrapN (by omega) (by omega), if_pos (by omega), if_pos (by omega), k4,
              good_eq _ (by rw [sideT_len]; omega) (okS_side hSL hSM) _ (by rw [sideT_len]; omega), Option.bind_some, sb]
            have dL := deep_ok fromOk_nil dsOk_nil rfl l3
            have dM := deep_ok fromOk_nil dsOk_nil rfl m3
            have rL := dsOk_rd dL (i := (L.length : Int) - 1) (by omega) (by rw [deepOf_len]; simp; omega)
            have rM := dsOk_rd dM (i := (M.length : Int) - 1) (by omega) (by rw [deepOf_len]; simp; omega)
            have eL : deepT L = rd (deepOf L []) ((L.length : Int) - 1) := by unfold deepT; rw [if_pos gL]
            have eM : deepT M = rd (deepOf M []) ((M.length : Int) - 1) := by unfold deepT; rw [if_pos gM]
            rw [← eL] at rL
            rw [← eM] at rM
            have rm : 1 ≤ mx (deepT L) (deepT M) ∧ mx (deepT L) (deepT M) ≤ 3000 := by unfold mx; split <;> omega
            rw [steelyardlaw14_TreeSizes.j2, if_neg (by decide), deep_eq _ (by omega) js _ (by omega), Option.bind_some, deep_eq L h6 hSL _ (by omega), Option.bind_some, deep_eq M h6' hSM _ (by omega), Option.bind_some, jd, wrapN (by omega) (by omega), if_pos rfl,
              deep_eq _ (by omega) ns _ (by omega), Option.bind_some, Option.bind_some, nd, wrapN (by omega) (by omega), if_pos rfl, deep_eq _ (by omega) ps _ (by omega), Option.bind_some, Option.bind_some, pd, wrapN (by omega) (by omega), if_pos rfl, Option.bind_some, if_pos (by omega)]
            rfl
end GTree
end Go.Proofs.YtcajdkncohcaeaaDoor
