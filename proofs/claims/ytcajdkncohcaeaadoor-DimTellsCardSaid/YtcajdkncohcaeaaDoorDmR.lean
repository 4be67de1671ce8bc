import Derived.Test.YtcajdkncohcaeaaDoorDmQ
namespace Go.Proofs.YtcajdkncohcaeaaDoor
set_option linter.unusedVariables false
set_option linter.unusedSimpArgs false
open Go.RowKit Go.Proofs.YtcajdkncohcaeaaDoorW.PrintWords

theorem mul_bound2 (x y : Int) (h1 : -200 ≤ x ∧ x ≤ 200) (h2 : -201 ≤ y ∧ y ≤ 201) : -40200 ≤ x * y ∧ x * y ≤ 40200 := by
  have h : (x * y).natAbs ≤ 200 * 201 := by rw [Int.natAbs_mul]; exact Nat.mul_le_mul (by omega) (by omega)
  omega

set_option maxRecDepth 20000 in
set_option maxHeartbeats 4000000 in
theorem rpow_at (a : Nat → Int) (n c : Int) (hc : -201 ≤ c ∧ c ≤ 201) (hcn : (n < -201 ∧ c = -201) ∨ (-201 ≤ n ∧ n ≤ 201 ∧ c = n) ∨ (201 < n ∧ c = 201)) (hn : -9223372036854775808 ≤ n ∧ n ≤ 9223372036854775807) (w : World) :
    Calls Tryd.prog 45 #[dv a, .int .i64 n] w fun e w' => e = .returned (gotV (if goodD a = true then toldD (scD a c) else (zD, 1))) ∧ Below w.heap.size w w' := by
  obtain ⟨g, hg⟩ : ∃ g, w.heap.size = g := ⟨_, rfl⟩
  obtain ⟨V1, e1⟩ : ∃ V, w.alloc (.cells #[.int .i64 (a 0), .int .i64 (a 1), .int .i64 (a 2), .int .i64 (a 3), .int .i64 (a 4), .int .i64 (a 5), .int .i64 (a 6)] 65) = V := ⟨_, rfl⟩
  obtain ⟨W, e3⟩ : ∃ V, V1.alloc (.cells #[.int .i64 0, .int .i64 0, .int .i64 0, .int .i64 0, .int .i64 0, .int .i64 0, .int .i64 0, .int .i64 0] 70) = V := ⟨_, rfl⟩
  have s1 : V1.heap.size = g + 1 := by rw [← e1, ← hg]; simp
  have s3 : W.heap.size = g + 2 := by rw [← e3]; simp [s1]
  have k1 : Below g w V1 := by rw [← e1, ← hg]; exact alloc_keep _ _
  have k3 : Below (g + 1) V1 W := by rw [← e3, ← s1]; exact alloc_keep _ _
  have HA : Hid (at7 W g a) := Lib.hid (at7_below (by rw [← e1, ← hg]; exact at7_alloc w a _ : at7 V1 g a) k3 (by omega))
  have HR : Hid (at8e W (g + 1) zD 0) := Lib.hid (by
    rw [← e3, ← s1]
    refine ⟨fun j hj => ?_, by simp⟩
    rcases below7 hj with h | h | h | h | h | h | h <;> subst h <;> simp [zD])
  have FA : Hid (at7f W g) := Lib.hid (at7f_below (fun j => by rw [← e1, ← hg]; apply World.frozen?_alloc_new : at7f V1 g) k3 (by omega))
  have FR : Hid (at7f W (g + 1)) := Lib.hid (fun j => by rw [← e3, ← s1]; apply World.frozen?_alloc_new)
  have HW : Hid (Below g w W) := Lib.hid (k1.trans (k3.mono (by omega)))
  have HS1 := Lib.hid e1
  have HS3 := Lib.hid e3
  clear e1 e3 k1 k3 s1
  cases ga : goodD a with
  | false =>
    have HV : Hid (True) := Lib.hid trivial
    have GA := Lib.hid (rgood_at a false ga)
    clear ga hcn
    unfold dv
    go_enter Tryd.func45, Tryd.ntmps45
    go_wp2_with fail
    rw [HS1.out, HS3.out]
    refine (GA.out _).mono ?_
    rintro e w1 ⟨rfl, hb1⟩
    rw [s3] at hb1
    have hR1 := at8e_below HR.out hb1 (by omega)
    obtain ⟨r0, r1, r2, r3, r4, r5, r6⟩ := at7_open hR1.1
    have r7 := hR1.2
    have fr : ∀ j, w1.frozen? ⟨g + 1, j, none⟩ = false := at7f_below FR.out hb1 (by omega)
    have HR1 := Lib.hid hR1
    have HB9 := Lib.hid (HW.out.trans (hb1.mono (by omega)))
    clear hb1
    clear hR1
    go_wp2_with fail
    skip
    have HE := at8e_set HR1.out zD 1
    have HB3 : Below g w ((((((((w1.setCell ⟨g + 1, 0, none⟩ (.int .i64 0)).setCell ⟨g + 1, 1, none⟩ (.int .i64 0)).setCell ⟨g + 1, 2, none⟩ (.int .i64 0)).setCell ⟨g + 1, 3, none⟩ (.int .i64 0)).setCell ⟨g + 1, 4, none⟩ (.int .i64 0)).setCell ⟨g + 1, 5, none⟩ (.int .i64 0)).setCell ⟨g + 1, 6, none⟩ (.int .i64 0)).setCell ⟨g + 1, 7, none⟩ (.int .i64 1)) := (Below.setCell (Below.setCell (Below.setCell (Below.setCell (Below.setCell (Below.setCell (Below.setCell (Below.setCell HB9.out (p := ⟨g + 1, 0, none⟩) (show g ≤ g + 1 by omega) _) (p := ⟨g + 1, 1, none⟩) (show g ≤ g + 1 by omega) _) (p := ⟨g + 1, 2, none⟩) (show g ≤ g + 1 by omega) _) (p := ⟨g + 1, 3, none⟩) (show g ≤ g + 1 by omega) _) (p := ⟨g + 1, 4, none⟩) (show g ≤ g + 1 by omega) _) (p := ⟨g + 1, 5, none⟩) (show g ≤ g + 1 by omega) _) (p := ⟨g + 1, 6, none⟩) (show g ≤ g + 1 by omega) _) (p := ⟨g + 1, 7, none⟩) (show g ≤ g + 1 by omega) _)
    simp only [zD] at HE
    generalize ((((((((w1.setCell ⟨g + 1, 0, none⟩ (.int .i64 0)).setCell ⟨g + 1, 1, none⟩ (.int .i64 0)).setCell ⟨g + 1, 2, none⟩ (.int .i64 0)).setCell ⟨g + 1, 3, none⟩ (.int .i64 0)).setCell ⟨g + 1, 4, none⟩ (.int .i64 0)).setCell ⟨g + 1, 5, none⟩ (.int .i64 0)).setCell ⟨g + 1, 6, none⟩ (.int .i64 0)).setCell ⟨g + 1, 7, none⟩ (.int .i64 1)) = Wf at *
    obtain ⟨y0, y1, y2, y3, y4, y5, y6⟩ := at7_open HE.1
    have y7 := HE.2
    exact bodyPost_ret (v := gotV (zD, 1)) (by simp [results, Tryd.results45, go_sem, y0, y1, y2, y3, y4, y5, y6, y7, gotV, zD]) rfl ⟨rfl, by first | exact HB3 | (rw [hg]; exact HB3)⟩
  | true =>
    obtain ⟨⟨rd, re⟩, hr⟩ : ∃ r, toldD (scD a c) = r := ⟨_, rfl⟩
    have HV : Hid (toldD (scD a c) = (rd, re)) := Lib.hid hr
    have GA := Lib.hid (rgood_at a true ga)
    have HA7 := Lib.hid (fun k hk => goodD_at ga k hk)
    have GT := Lib.hid (rmay_at (scD a c) (rd, re) hr)
    have hmin : min n 201 = if n ≤ 201 then n else 201 := by omega
    have hmm : max (-201) (min n 201) = c := by omega
    clear ga hr
    unfold dv
    go_enter Tryd.func45, Tryd.ntmps45
    go_wp2_with fail
    rw [HS1.out, HS3.out]
    refine (GA.out _).mono ?_
    rintro e w1 ⟨rfl, hb1⟩
    rw [s3] at hb1
    have hz2 : g + 2 ≤ w1.heap.size := by have := hb1.size; omega
    have HA2 := Lib.hid (at7_below HA.out hb1 (by omega))
    have HR2 := Lib.hid (at8e_below HR.out hb1 (by omega))
    have FA2 := Lib.hid (at7f_below FA.out hb1 (by omega))
    have FR2 := Lib.hid (at7f_below FR.out hb1 (by omega))
    have HW2 := Lib.hid (HW.out.trans (hb1.mono (by omega)))
    clear hb1 HA HR FA FR HW HS1 HS3 GA hmin
    go_wp2_with fail
    go_loopw [5] (fun i wr => ∃ k : Nat, i = .int .i64 k ∧ k ≤ 7 ∧ Hid (at7 wr g (mixD a (scD a c) k)) ∧ Hid (at8e wr (g + 1) zD 0) ∧ Hid (at7f wr g) ∧ Hid (at7f wr (g + 1)) ∧ Hid (Below g w wr) ∧ g + 2 ≤ wr.heap.size) (fun i _ => 7 - (intOf i).toNat)
    case atStart => exact ⟨0, rfl, Nat.zero_le _, Lib.hid (by rw [mix_zero]; exact HA2.out), HR2, FA2, FR2, HW2, hz2⟩
    case round =>
      obtain ⟨k, rfl, hk, KA, KR, KF, KG, KW, hz⟩ := hrel
      by_cases hlt : k < 7
      · have ca : wr.cell? ⟨g, k, none⟩ = some (.int .i64 (a k)) := by rw [KA.out k hlt, mix_here]
        have cf : wr.frozen? ⟨g, k, none⟩ = false := KF.out k
        obtain ⟨hs1, hs2⟩ := mul_bound2 (a k) c (HA7.out k hlt) hc
        go_wp2_with fail
        go_roundw
        case rel => exact ⟨k + 1, by go_num, by omega, Lib.hid (at7_mix KA.out hlt), Lib.hid (at8e_other KR.out ⟨g, k, none⟩ (by simp) _), Lib.hid (fun j => by simpa using KF.out j), Lib.hid (fun j => by simpa using KG.out j), Lib.hid (KW.out.setCell (show g ≤ g from Nat.le_refl g) _), by simpa using hz⟩
        case measure => simp [intOf]; omega
      · obtain rfl : k = 7 := by omega
        have hE := at7_congr KA.out (mix_seven a (scD a c))
        obtain ⟨x0, x1, x2, x3, x4, x5, x6⟩ := at7_open hE
        clear hE KA KF hk hlt
        go_wp2_with fail
        refine (GT.out _).mono ?_
        rintro e w3 ⟨rfl, hb3⟩
        simp only [gotV]
        have hR1 := at8e_below KR.out hb3 (by omega)
        obtain ⟨r0, r1, r2, r3, r4, r5, r6⟩ := at7_open hR1.1
        have r7 := hR1.2
        have fr : ∀ j, w3.frozen? ⟨g + 1, j, none⟩ = false := at7f_below KG.out hb3 (by omega)
        have HR1 := Lib.hid hR1
        have HB9 := Lib.hid (KW.out.trans (hb3.mono (by omega)))
        clear hb3 x0 x1 x2 x3 x4 x5 x6 GT KR KG KW HA2 HR2 FA2 FR2 HW2
        clear hR1
        go_wp2_with fail
        rw [HV.out]
        have HE := at8e_set HR1.out rd re
        have HB3 : Below g w ((((((((w3.setCell ⟨g + 1, 0, none⟩ (.int .i64 (rd 0))).setCell ⟨g + 1, 1, none⟩ (.int .i64 (rd 1))).setCell ⟨g + 1, 2, none⟩ (.int .i64 (rd 2))).setCell ⟨g + 1, 3, none⟩ (.int .i64 (rd 3))).setCell ⟨g + 1, 4, none⟩ (.int .i64 (rd 4))).setCell ⟨g + 1, 5, none⟩ (.int .i64 (rd 5))).setCell ⟨g + 1, 6, none⟩ (.int .i64 (rd 6))).setCell ⟨g + 1, 7, none⟩ (.int .i64 re)) := (Below.setCell (Below.setCell (Below.setCell (Below.setCell (Below.setCell (Below.setCell (Below.setCell (Below.setCell HB9.out (p := ⟨g + 1, 0, none⟩) (show g ≤ g + 1 by omega) _) (p := ⟨g + 1, 1, none⟩) (show g ≤ g + 1 by omega) _) (p := ⟨g + 1, 2, none⟩) (show g ≤ g + 1 by omega) _) (p := ⟨g + 1, 3, none⟩) (show g ≤ g + 1 by omega) _) (p := ⟨g + 1, 4, none⟩) (show g ≤ g + 1 by omega) _) (p := ⟨g + 1, 5, none⟩) (show g ≤ g + 1 by omega) _) (p := ⟨g + 1, 6, none⟩) (show g ≤ g + 1 by omega) _) (p := ⟨g + 1, 7, none⟩) (show g ≤ g + 1 by omega) _)
        skip
        generalize ((((((((w3.setCell ⟨g + 1, 0, none⟩ (.int .i64 (rd 0))).setCell ⟨g + 1, 1, none⟩ (.int .i64 (rd 1))).setCell ⟨g + 1, 2, none⟩ (.int .i64 (rd 2))).setCell ⟨g + 1, 3, none⟩ (.int .i64 (rd 3))).setCell ⟨g + 1, 4, none⟩ (.int .i64 (rd 4))).setCell ⟨g + 1, 5, none⟩ (.int .i64 (rd 5))).setCell ⟨g + 1, 6, none⟩ (.int .i64 (rd 6))).setCell ⟨g + 1, 7, none⟩ (.int .i64 re)) = Wf at *
        obtain ⟨y0, y1, y2, y3, y4, y5, y6⟩ := at7_open HE.1
        have y7 := HE.2
        exact bodyPost_ret (v := gotV (rd, re)) (by simp [results, Tryd.results45, go_sem, y0, y1, y2, y3, y4, y5, y6, y7, gotV, zD]) rfl ⟨rfl, by first | exact HB3 | (rw [hg]; exact HB3)⟩

theorem gotV_congr (r q : (Nat → Int) × Int) (h : ∀ j, j < 7 → r.1 j = q.1 j) (h2 : r.2 = q.2) : gotV r = gotV q := by
  unfold gotV
  rw [h 0 (by decide), h 1 (by decide), h 2 (by decide), h 3 (by decide), h 4 (by decide), h 5 (by decide), h 6 (by decide), h2]
theorem goodD_iff' (a : Nat → Int) : goodD a = true ↔ ∀ j, j < 7 → -200 ≤ a j ∧ a j ≤ 200 := by
  constructor
  · intro h j hj; exact goodD_at h j hj
  · intro h
    have hk : ∀ j, j < 7 → okE (a j) = true := fun j hj => by
      have := h j hj
      unfold okE; rw [decide_eq_true this.1, decide_eq_true this.2]; rfl
    unfold goodD goodFrom
    simp only [List.drop_zero, List.all_cons, List.all_nil, Bool.and_true, Bool.and_eq_true]
    exact ⟨hk 0 (by decide), hk 1 (by decide), hk 2 (by decide), hk 3 (by decide), hk 4 (by decide), hk 5 (by decide), hk 6 (by decide)⟩
/-- the reference's cap at 201 either way tells the same -/
theorem pow_cap (a : Nat → Int) (n c : Int) (hcn : (n < -201 ∧ c = -201) ∨ (-201 ≤ n ∧ n ≤ 201 ∧ c = n) ∨ (201 < n ∧ c = 201)) :
    gotV (if goodD a = true then toldD (scD a c) else (zD, 1)) = gotV (powD a n) := by
  unfold powD
  cases ga : goodD a with
  | false => rfl
  | true =>
    simp only [if_true]
    cases ge : eqD a zD with
    | true =>
      have hz := (eqD_iff a zD).1 ge
      have hs : ∀ j, j < 7 → scD a c j = 0 := fun j hj => by show a j * c = 0; rw [hz j hj]; simp [zD]
      have hg : goodD (scD a c) = true := (goodD_iff' _).2 (fun j hj => by rw [hs j hj]; omega)
      rw [toldD, if_pos hg]
      exact gotV_congr _ _ (fun j hj => by show scD a c j = a j; rw [hs j hj, hz j hj]; rfl) rfl
    | false =>
      cases gn : okE n with
      | true =>
        have := okE_true gn
        have hc : c = n := by omega
        rw [hc]; simp
      | false =>
        have hn := okE_false gn
        have hb : goodD (scD a c) = false := by
          cases hg : goodD (scD a c) with
          | false => rfl
          | true =>
            exfalso
            have h1 := (goodD_iff' _).1 hg
            have : eqD a zD = true := (eqD_iff a zD).2 (fun j hj => by
              have h2 : -200 ≤ a j * c ∧ a j * c ≤ 200 := h1 j hj
              show a j = 0
              rcases Int.lt_trichotomy (a j) 0 with h | h | h
              · have h3 : 1 * 201 ≤ (a j).natAbs * c.natAbs := Nat.mul_le_mul (by omega) (by omega)
                rw [← Int.natAbs_mul] at h3; omega
              · exact h
              · have h3 : 1 * 201 ≤ (a j).natAbs * c.natAbs := Nat.mul_le_mul (by omega) (by omega)
                rw [← Int.natAbs_mul] at h3; omega)
            rw [this] at ge; cases ge
        rw [toldD, hb]; rfl
theorem rpow_any (a : Nat → Int) (n : Int) (hn : -9223372036854775808 ≤ n ∧ n ≤ 9223372036854775807) (w : World) :
    Calls Tryd.prog 45 #[dv a, .int .i64 n] w fun e w' => e = .returned (gotV (powD a n)) ∧ Below w.heap.size w w' := by
  obtain ⟨c, hcn⟩ : ∃ c : Int, (n < -201 ∧ c = -201) ∨ (-201 ≤ n ∧ n ≤ 201 ∧ c = n) ∨ (201 < n ∧ c = 201) := by
    rcases (by omega : n < -201 ∨ (-201 ≤ n ∧ n ≤ 201) ∨ 201 < n) with h | h | h
    · exact ⟨-201, .inl ⟨h, rfl⟩⟩
    · exact ⟨n, .inr (.inl ⟨h.1, h.2, rfl⟩)⟩
    · exact ⟨201, .inr (.inr ⟨h, rfl⟩)⟩
  have := rpow_at a n c (by omega) hcn hn w
  rwa [pow_cap a n c hcn] at this
end Go.Proofs.YtcajdkncohcaeaaDoor
