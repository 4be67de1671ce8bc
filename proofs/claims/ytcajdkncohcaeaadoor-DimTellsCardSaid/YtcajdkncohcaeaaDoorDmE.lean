import Derived.Test.YtcajdkncohcaeaaDoorDmD
namespace Go.Proofs.YtcajdkncohcaeaaDoor
set_option linter.unusedVariables false
set_option linter.unusedSimpArgs false
open Go.RowKit Go.Proofs.YtcajdkncohcaeaaDoorW.PrintWords

theorem mul_bound (x y : Int) (h1 : -200 ≤ x ∧ x ≤ 200) (h2 : -200 ≤ y ∧ y ≤ 200) : -40000 ≤ x * y ∧ x * y ≤ 40000 := by
  have h : (x * y).natAbs ≤ 200 * 200 := by rw [Int.natAbs_mul]; exact Nat.mul_le_mul (by omega) (by omega)
  omega
def scD (a : Nat → Int) (n : Int) : Nat → Int := fun i => a i * n
def powD (a : Nat → Int) (n : Int) : (Nat → Int) × Int :=
  if goodD a = true then (if eqD a zD = true then (a, 0) else if okE n = true then toldD (scD a n) else (zD, 2)) else (zD, 1)
theorem eqD_zero (a : Nat → Int) : ((a 0 == 0) && ((a 1 == 0) && ((a 2 == 0) && ((a 3 == 0) && ((a 4 == 0) && ((a 5 == 0) && ((a 6 == 0) && true))))))) = eqD a zD := rfl
set_option maxRecDepth 20000 in
set_option maxHeartbeats 2000000 in
theorem dpow_any (a : Nat → Int) (n : Int) (w : World) (hn : -9223372036854775808 ≤ n ∧ n ≤ 9223372036854775807) :
    Calls Tryd.prog 43 #[dv a, .int .i64 n] w fun e w' => e = .returned (.tuple #[dv (powD a n).1, .int .i64 (powD a n).2]) ∧ Below w.heap.size w w' := by
  obtain ⟨W, hW⟩ : ∃ W, (w.alloc (.cells #[.int .i64 (a 0), .int .i64 (a 1), .int .i64 (a 2), .int .i64 (a 3), .int .i64 (a 4), .int .i64 (a 5), .int .i64 (a 6)] 65)).alloc (.cells #[.int .i64 0, .int .i64 0, .int .i64 0, .int .i64 0, .int .i64 0, .int .i64 0, .int .i64 0] 65) = W := ⟨_, rfl⟩
  obtain ⟨g, hg⟩ : ∃ g, w.heap.size = g := ⟨_, rfl⟩
  have s1 : (w.alloc (.cells #[.int .i64 (a 0), .int .i64 (a 1), .int .i64 (a 2), .int .i64 (a 3), .int .i64 (a 4), .int .i64 (a 5), .int .i64 (a 6)] 65)).heap.size = g + 1 := by rw [← hg]; simp
  have s3 : W.heap.size = g + 2 := by rw [← hW, ← hg]; simp
  have hBW : Below g w W := by rw [← hW, ← hg]; exact bl_alloc (bl_alloc (Below.refl _ _) _) _
  have hb3 := alloc_keep (w.alloc (.cells #[.int .i64 (a 0), .int .i64 (a 1), .int .i64 (a 2), .int .i64 (a 3), .int .i64 (a 4), .int .i64 (a 5), .int .i64 (a 6)] 65)) (.cells #[.int .i64 0, .int .i64 0, .int .i64 0, .int .i64 0, .int .i64 0, .int .i64 0, .int .i64 0] 65)
  rw [s1, hW] at hb3
  have hA : at7 W g a := at7_below (hg ▸ at7_alloc w a 65) hb3 (by omega)
  have hR : at7 W (g + 1) zD := by rw [← hW, ← s1]; exact at7_zero _ _
  have fA : at7f W g := at7f_below (fun j => by rw [← hg]; simp : at7f (w.alloc (.cells #[.int .i64 (a 0), .int .i64 (a 1), .int .i64 (a 2), .int .i64 (a 3), .int .i64 (a 4), .int .i64 (a 5), .int .i64 (a 6)] 65)) g) hb3 (by omega)
  have fR : at7f W (g + 1) := fun j => by rw [← hW, ← s1]; apply World.frozen?_alloc_new
  have HA := Lib.hid hA
  have HR := Lib.hid hR
  have FA := Lib.hid fA
  have FR := Lib.hid fR
  have HW := Lib.hid hBW
  have HS := Lib.hid hW
  clear hA hR fA fR hBW hb3 s1 hW
  obtain ⟨eq, heq⟩ : ∃ eq, eqD a zD = eq := ⟨_, rfl⟩
  have hEQ : ∀ (d : Nat) (w : World), (Op.equalIn (d + 2) 65 (.agg #[.int .i64 (a 0), .int .i64 (a 1), .int .i64 (a 2), .int .i64 (a 3), .int .i64 (a 4), .int .i64 (a 5), .int .i64 (a 6)]) (.agg #[.int .i64 0, .int .i64 0, .int .i64 0, .int .i64 0, .int .i64 0, .int .i64 0, .int .i64 0])).run Tryd.prog w = .ok eq w := fun d w => by rw [← heq]; exact eqDim d w (a 0) 0 (a 1) 0 (a 2) 0 (a 3) 0 (a 4) 0 (a 5) 0 (a 6) 0
  cases ga : goodD a with
  | false =>
    have HV : Hid (powD a n = (zD, 1)) := Lib.hid (by rw [powD, ga]; rfl)
    have GA := Lib.hid (dgood_at a false ga)
    clear ga
    unfold dv
    go_enter Tryd.func43, Tryd.ntmps43
    go_wp2_with fail
    rw [HS.out]
    refine (GA.out _).mono ?_
    rintro e w1 ⟨rfl, hb1⟩
    rw [s3] at hb1
    have hz1 : g + 2 ≤ w1.heap.size := by have := hb1.size; omega
    obtain ⟨x0, x1, x2, x3, x4, x5, x6⟩ := at7_open (at7_below HA.out hb1 (by omega))
    obtain ⟨r0, r1, r2, r3, r4, r5, r6⟩ := at7_open (at7_below HR.out hb1 (by omega))
    have fr : ∀ j, w1.frozen? ⟨g + 1, j, none⟩ = false := at7f_below FR.out hb1 (by omega)
    have HA2 := Lib.hid (at7_below HA.out hb1 (by omega))
    have HR2 := Lib.hid (at7_below HR.out hb1 (by omega))
    have FA2 := Lib.hid (at7f_below FA.out hb1 (by omega))
    have FR2 := Lib.hid (at7f_below FR.out hb1 (by omega))
    have HW2 := Lib.hid (HW.out.trans (hb1.mono (by omega)))
    clear hb1 HA HR FA FR HW HS GA
    go_wp2_with fail
    rw [HV.out]
    have HE := at7_set HR2.out zD
    have HB3 := below_set7 (hg ▸ HW2.out) (g + 1) (by omega) (.int .i64 0) (.int .i64 0) (.int .i64 0) (.int .i64 0) (.int .i64 0) (.int .i64 0) (.int .i64 0)
    simp only [zD] at HE
    generalize (((((((w1.setCell ⟨g + 1, 0, none⟩ (.int .i64 0)).setCell ⟨g + 1, 1, none⟩ (.int .i64 0)).setCell ⟨g + 1, 2, none⟩ (.int .i64 0)).setCell ⟨g + 1, 3, none⟩ (.int .i64 0)).setCell ⟨g + 1, 4, none⟩ (.int .i64 0)).setCell ⟨g + 1, 5, none⟩ (.int .i64 0)).setCell ⟨g + 1, 6, none⟩ (.int .i64 0)) = Wf at *
    obtain ⟨y0, y1, y2, y3, y4, y5, y6⟩ := at7_open HE
    exact bodyPost_ret (v := .tuple #[dv zD, .int .i64 1]) (by simp [results, Tryd.results43, go_sem, y0, y1, y2, y3, y4, y5, y6, dv, zD]) rfl ⟨rfl, HB3⟩
  | true =>
    cases eq with
    | true =>
      have HV : Hid (powD a n = (a, 0)) := Lib.hid (by rw [powD, ga, heq]; rfl)
      clear heq
      have GA := Lib.hid (dgood_at a true ga)
      clear ga
      unfold dv
      go_enter Tryd.func43, Tryd.ntmps43
      go_wp2_with fail
      rw [HS.out]
      refine (GA.out _).mono ?_
      rintro e w1 ⟨rfl, hb1⟩
      rw [s3] at hb1
      have hz1 : g + 2 ≤ w1.heap.size := by have := hb1.size; omega
      obtain ⟨x0, x1, x2, x3, x4, x5, x6⟩ := at7_open (at7_below HA.out hb1 (by omega))
      obtain ⟨r0, r1, r2, r3, r4, r5, r6⟩ := at7_open (at7_below HR.out hb1 (by omega))
      have fr : ∀ j, w1.frozen? ⟨g + 1, j, none⟩ = false := at7f_below FR.out hb1 (by omega)
      have HA2 := Lib.hid (at7_below HA.out hb1 (by omega))
      have HR2 := Lib.hid (at7_below HR.out hb1 (by omega))
      have FA2 := Lib.hid (at7f_below FA.out hb1 (by omega))
      have FR2 := Lib.hid (at7f_below FR.out hb1 (by omega))
      have HW2 := Lib.hid (HW.out.trans (hb1.mono (by omega)))
      clear hb1 HA HR FA FR HW HS GA
      go_wp2_with fail
      rw [HV.out]
      have HE := at7_set HR2.out a
      have HB3 := below_set7 (hg ▸ HW2.out) (g + 1) (by omega) (.int .i64 (a 0)) (.int .i64 (a 1)) (.int .i64 (a 2)) (.int .i64 (a 3)) (.int .i64 (a 4)) (.int .i64 (a 5)) (.int .i64 (a 6))
      skip
      generalize (((((((w1.setCell ⟨g + 1, 0, none⟩ (.int .i64 (a 0))).setCell ⟨g + 1, 1, none⟩ (.int .i64 (a 1))).setCell ⟨g + 1, 2, none⟩ (.int .i64 (a 2))).setCell ⟨g + 1, 3, none⟩ (.int .i64 (a 3))).setCell ⟨g + 1, 4, none⟩ (.int .i64 (a 4))).setCell ⟨g + 1, 5, none⟩ (.int .i64 (a 5))).setCell ⟨g + 1, 6, none⟩ (.int .i64 (a 6))) = Wf at *
      obtain ⟨y0, y1, y2, y3, y4, y5, y6⟩ := at7_open HE
      exact bodyPost_ret (v := .tuple #[dv a, .int .i64 0]) (by simp [results, Tryd.results43, go_sem, y0, y1, y2, y3, y4, y5, y6, dv, zD]) rfl ⟨rfl, HB3⟩
    | false =>
      cases gn : okE n with
      | false =>
        have HV : Hid (powD a n = (zD, 2)) := Lib.hid (by rw [powD, ga, heq, gn]; rfl)
        clear heq
        rcases okE_false gn with hn1 | hn1
        all_goals
          clear gn
          have GA := Lib.hid (dgood_at a true ga)
          clear ga
          unfold dv
          go_enter Tryd.func43, Tryd.ntmps43
          go_wp2_with fail
          rw [HS.out]
          refine (GA.out _).mono ?_
          rintro e w1 ⟨rfl, hb1⟩
          rw [s3] at hb1
          have hz1 : g + 2 ≤ w1.heap.size := by have := hb1.size; omega
          obtain ⟨x0, x1, x2, x3, x4, x5, x6⟩ := at7_open (at7_below HA.out hb1 (by omega))
          obtain ⟨r0, r1, r2, r3, r4, r5, r6⟩ := at7_open (at7_below HR.out hb1 (by omega))
          have fr : ∀ j, w1.frozen? ⟨g + 1, j, none⟩ = false := at7f_below FR.out hb1 (by omega)
          have HA2 := Lib.hid (at7_below HA.out hb1 (by omega))
          have HR2 := Lib.hid (at7_below HR.out hb1 (by omega))
          have FA2 := Lib.hid (at7f_below FA.out hb1 (by omega))
          have FR2 := Lib.hid (at7f_below FR.out hb1 (by omega))
          have HW2 := Lib.hid (HW.out.trans (hb1.mono (by omega)))
          clear hb1 HA HR FA FR HW HS GA
          go_wp2_with fail
          rw [HV.out]
          have HE := at7_set HR2.out zD
          have HB3 := below_set7 (hg ▸ HW2.out) (g + 1) (by omega) (.int .i64 0) (.int .i64 0) (.int .i64 0) (.int .i64 0) (.int .i64 0) (.int .i64 0) (.int .i64 0)
          simp only [zD] at HE
          generalize (((((((w1.setCell ⟨g + 1, 0, none⟩ (.int .i64 0)).setCell ⟨g + 1, 1, none⟩ (.int .i64 0)).setCell ⟨g + 1, 2, none⟩ (.int .i64 0)).setCell ⟨g + 1, 3, none⟩ (.int .i64 0)).setCell ⟨g + 1, 4, none⟩ (.int .i64 0)).setCell ⟨g + 1, 5, none⟩ (.int .i64 0)).setCell ⟨g + 1, 6, none⟩ (.int .i64 0)) = Wf at *
          obtain ⟨y0, y1, y2, y3, y4, y5, y6⟩ := at7_open HE
          exact bodyPost_ret (v := .tuple #[dv zD, .int .i64 2]) (by simp [results, Tryd.results43, go_sem, y0, y1, y2, y3, y4, y5, y6, dv, zD]) rfl ⟨rfl, HB3⟩
      | true =>
        obtain ⟨⟨rd, re⟩, hr⟩ : ∃ r, toldD (scD a n) = r := ⟨_, rfl⟩
        have HV : Hid (powD a n = (rd, re)) := Lib.hid (by rw [powD, ga, heq, gn, ← hr]; rfl)
        have GT := Lib.hid (dtold_at (scD a n) (rd, re) hr)
        have HA7 := Lib.hid (fun k hk => goodD_at ga k hk)
        obtain ⟨hn1, hn2⟩ := okE_true gn
        have hn3 : ¬ n < -200 := by omega
        have hn4 : ¬ 200 < n := by omega
        clear heq gn hr
        have GA := Lib.hid (dgood_at a true ga)
        clear ga
        unfold dv
        go_enter Tryd.func43, Tryd.ntmps43
        go_wp2_with fail
        rw [HS.out]
        refine (GA.out _).mono ?_
        rintro e w1 ⟨rfl, hb1⟩
        rw [s3] at hb1
        have hz1 : g + 2 ≤ w1.heap.size := by have := hb1.size; omega
        obtain ⟨x0, x1, x2, x3, x4, x5, x6⟩ := at7_open (at7_below HA.out hb1 (by omega))
        obtain ⟨r0, r1, r2, r3, r4, r5, r6⟩ := at7_open (at7_below HR.out hb1 (by omega))
        have fr : ∀ j, w1.frozen? ⟨g + 1, j, none⟩ = false := at7f_below FR.out hb1 (by omega)
        have HA2 := Lib.hid (at7_below HA.out hb1 (by omega))
        have HR2 := Lib.hid (at7_below HR.out hb1 (by omega))
        have FA2 := Lib.hid (at7f_below FA.out hb1 (by omega))
        have FR2 := Lib.hid (at7f_below FR.out hb1 (by omega))
        have HW2 := Lib.hid (HW.out.trans (hb1.mono (by omega)))
        clear hb1 HA HR FA FR HW HS GA
        go_wp2_with fail
        clear hEQ x0 x1 x2 x3 x4 x5 x6 r0 r1 r2 r3 r4 r5 r6 fr
        go_loopw [25] (fun i wr => ∃ k : Nat, i = .int .i64 k ∧ k ≤ 7 ∧ Hid (at7 wr g (mixD a (scD a n) k)) ∧ Hid (at7 wr (g + 1) zD) ∧ Hid (at7f wr g) ∧ Hid (at7f wr (g + 1)) ∧ Hid (Below g w wr) ∧ g + 2 ≤ wr.heap.size) (fun i _ => 7 - (intOf i).toNat)
        case atStart => exact ⟨0, rfl, Nat.zero_le _, Lib.hid (by rw [mix_zero]; exact HA2.out), HR2, FA2, FR2, HW2, hz1⟩
        case round =>
          obtain ⟨k, rfl, hk, KA, KR, KF, KG, KW, hz⟩ := hrel
          by_cases hlt : k < 7
          · have ca : wr.cell? ⟨g, k, none⟩ = some (.int .i64 (a k)) := by rw [KA.out k hlt, mix_here]
            have cf : wr.frozen? ⟨g, k, none⟩ = false := KF.out k
            obtain ⟨hs1, hs2⟩ := mul_bound (a k) n (HA7.out k hlt) ⟨hn1, hn2⟩
            have hsum : a k * n = scD a n k := rfl
            rw [hsum] at hs1 hs2
            go_wp2_with fail
            go_roundw
            case rel => exact ⟨k + 1, by go_num, by omega, Lib.hid (at7_mix KA.out hlt), Lib.hid (at7_other KR.out ⟨g, k, none⟩ (by simp) _), Lib.hid (fun j => by simpa using KF.out j), Lib.hid (fun j => by simpa using KG.out j), Lib.hid (KW.out.setCell (show g ≤ g from Nat.le_refl g) _), by simpa using hz⟩
            case measure => simp [intOf]; omega
          · obtain rfl : k = 7 := by omega
            have hE := at7_congr KA.out (mix_seven a (scD a n))
            obtain ⟨x0, x1, x2, x3, x4, x5, x6⟩ := at7_open hE
            clear hE KA KF hk hlt
            go_wp2_with fail
            refine (GT.out _).mono ?_
            rintro e w3 ⟨rfl, hb3⟩
            have HR3 := Lib.hid (at7_below KR.out hb3 (by omega))
            have fr : ∀ j, w3.frozen? ⟨g + 1, j, none⟩ = false := at7f_below KG.out hb3 (by omega)
            have HW3 := Lib.hid (KW.out.trans (hb3.mono (by omega)))
            obtain ⟨r0, r1, r2, r3, r4, r5, r6⟩ := at7_open HR3.out
            clear hb3 x0 x1 x2 x3 x4 x5 x6 GT KR KG KW HA2 HR2 FA2 FR2 HW2
            simp only [dv]
            go_wp2_with fail
            rw [HV.out]
            have HE := at7_set HR3.out rd
            have HB3 := below_set7 (hg ▸ HW3.out) (g + 1) (by omega) (.int .i64 (rd 0)) (.int .i64 (rd 1)) (.int .i64 (rd 2)) (.int .i64 (rd 3)) (.int .i64 (rd 4)) (.int .i64 (rd 5)) (.int .i64 (rd 6))
            skip
            generalize (((((((w3.setCell ⟨g + 1, 0, none⟩ (.int .i64 (rd 0))).setCell ⟨g + 1, 1, none⟩ (.int .i64 (rd 1))).setCell ⟨g + 1, 2, none⟩ (.int .i64 (rd 2))).setCell ⟨g + 1, 3, none⟩ (.int .i64 (rd 3))).setCell ⟨g + 1, 4, none⟩ (.int .i64 (rd 4))).setCell ⟨g + 1, 5, none⟩ (.int .i64 (rd 5))).setCell ⟨g + 1, 6, none⟩ (.int .i64 (rd 6))) = Wf at *
            obtain ⟨y0, y1, y2, y3, y4, y5, y6⟩ := at7_open HE
            exact bodyPost_ret (v := .tuple #[dv rd, .int .i64 re]) (by simp [results, Tryd.results43, go_sem, y0, y1, y2, y3, y4, y5, y6, dv, zD]) rfl ⟨rfl, HB3⟩
end Go.Proofs.YtcajdkncohcaeaaDoor
