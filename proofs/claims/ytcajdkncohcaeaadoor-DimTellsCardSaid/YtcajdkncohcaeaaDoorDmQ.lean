import Derived.Test.YtcajdkncohcaeaaDoorDmP
import Derived.Deep.RegionLaw
namespace Go.Proofs.YtcajdkncohcaeaaDoor
set_option linter.unusedVariables false
set_option linter.unusedSimpArgs false
open Go.RowKit Go.Proofs.YtcajdkncohcaeaaDoorW.PrintWords

theorem rmay_at (a : Nat → Int) (r : (Nat → Int) × Int) (h : toldD a = r) (w : World) :
    Calls Tryd.prog 66 #[.agg #[.int .i64 (a 0), .int .i64 (a 1), .int .i64 (a 2), .int .i64 (a 3), .int .i64 (a 4), .int .i64 (a 5), .int .i64 (a 6)]] w fun e w' => e = .returned (gotV r) ∧ Below w.heap.size w w' := by
  have := rmay_any a w
  rwa [h] at this
theorem at8e_below {w w' : World} {b n : Nat} {a : Nat → Int} {e : Int} (h : at8e w b a e) (hB : Below n w w') (hb : b < n) : at8e w' b a e :=
  ⟨at7_below h.1 hB hb, (hB.cell (p := ⟨b, 7, none⟩) hb).trans h.2⟩
theorem at8e_other {w : World} {b : Nat} {a : Nat → Int} {e : Int} (h : at8e w b a e) (p : Addr) (hp : p.block ≠ b) (u : Value) : at8e (w.setCell p u) b a e :=
  ⟨at7_other h.1 p hp u, (World.cell?_setCell_other _ _ _ _ (fun e => hp (by rw [e]))).trans h.2⟩

set_option maxRecDepth 20000 in
set_option maxHeartbeats 4000000 in
theorem rmul_any (a b : Nat → Int) (w : World) :
    Calls Tryd.prog 44 #[dv a, dv b, .int .i64 1] w fun e w' => e = .returned (gotV (mulD a b)) ∧ Below w.heap.size w w' := by
  obtain ⟨g, hg⟩ : ∃ g, w.heap.size = g := ⟨_, rfl⟩
  obtain ⟨V1, e1⟩ : ∃ V, w.alloc (.cells #[.int .i64 (a 0), .int .i64 (a 1), .int .i64 (a 2), .int .i64 (a 3), .int .i64 (a 4), .int .i64 (a 5), .int .i64 (a 6)] 65) = V := ⟨_, rfl⟩
  obtain ⟨V2, e2⟩ : ∃ V, V1.alloc (.cells #[.int .i64 (b 0), .int .i64 (b 1), .int .i64 (b 2), .int .i64 (b 3), .int .i64 (b 4), .int .i64 (b 5), .int .i64 (b 6)] 65) = V := ⟨_, rfl⟩
  obtain ⟨W, e3⟩ : ∃ V, V2.alloc (.cells #[.int .i64 0, .int .i64 0, .int .i64 0, .int .i64 0, .int .i64 0, .int .i64 0, .int .i64 0, .int .i64 0] 70) = V := ⟨_, rfl⟩
  have s1 : V1.heap.size = g + 1 := by rw [← e1, ← hg]; simp
  have s2 : V2.heap.size = g + 2 := by rw [← e2]; simp [s1]
  have s3 : W.heap.size = g + 3 := by rw [← e3]; simp [s2]
  have k1 : Below g w V1 := by rw [← e1, ← hg]; exact alloc_keep _ _
  have k2 : Below (g + 1) V1 V2 := by rw [← e2, ← s1]; exact alloc_keep _ _
  have k3 : Below (g + 2) V2 W := by rw [← e3, ← s2]; exact alloc_keep _ _
  have HA : Hid (at7 W g a) := Lib.hid (at7_below (at7_below (by rw [← e1, ← hg]; exact at7_alloc w a _ : at7 V1 g a) k2 (by omega)) k3 (by omega))
  have HB : Hid (at7 W (g + 1) b) := Lib.hid (at7_below (by rw [← e2, ← s1]; exact at7_alloc V1 b _ : at7 V2 (g + 1) b) k3 (by omega))
  have HR : Hid (at8e W (g + 2) zD 0) := Lib.hid (by
    rw [← e3, ← s2]
    refine ⟨fun j hj => ?_, by simp⟩
    rcases below7 hj with h | h | h | h | h | h | h <;> subst h <;> simp [zD])
  have FA : Hid (at7f W g) := Lib.hid (at7f_below (at7f_below (fun j => by rw [← e1, ← hg]; apply World.frozen?_alloc_new : at7f V1 g) k2 (by omega)) k3 (by omega))
  have FR : Hid (at7f W (g + 2)) := Lib.hid (fun j => by rw [← e3, ← s2]; apply World.frozen?_alloc_new)
  have HW : Hid (Below g w W) := Lib.hid ((k1.trans (k2.mono (by omega))).trans (k3.mono (by omega)))
  have HS1 := Lib.hid e1
  have HS2 := Lib.hid e2
  have HS3 := Lib.hid e3
  clear e1 e2 e3 k1 k2 k3 s1 s2
  cases ga : goodD a with
  | false =>
    have HV : Hid (mulD a b = (zD, 1)) := Lib.hid (by rw [mulD, ga]; rfl)
    have GA := Lib.hid (rgood_at a false ga)
    clear ga
    unfold dv
    go_enter Tryd.func44, Tryd.ntmps44
    go_wp2_with fail
    rw [HS1.out, HS2.out, HS3.out]
    refine (GA.out _).mono ?_
    rintro e w1 ⟨rfl, hb1⟩
    rw [s3] at hb1
    have hR1 := at8e_below HR.out hb1 (by omega)
    obtain ⟨r0, r1, r2, r3, r4, r5, r6⟩ := at7_open hR1.1
    have r7 := hR1.2
    have fr : ∀ j, w1.frozen? ⟨g + 2, j, none⟩ = false := at7f_below FR.out hb1 (by omega)
    have HR1 := Lib.hid hR1
    have HB9 := Lib.hid (HW.out.trans (hb1.mono (by omega)))
    clear hb1
    clear hR1
    go_wp2_with fail
    rw [HV.out]
    have HE := at8e_set HR1.out zD 1
    have HB3 : Below g w ((((((((w1.setCell ⟨g + 2, 0, none⟩ (.int .i64 0)).setCell ⟨g + 2, 1, none⟩ (.int .i64 0)).setCell ⟨g + 2, 2, none⟩ (.int .i64 0)).setCell ⟨g + 2, 3, none⟩ (.int .i64 0)).setCell ⟨g + 2, 4, none⟩ (.int .i64 0)).setCell ⟨g + 2, 5, none⟩ (.int .i64 0)).setCell ⟨g + 2, 6, none⟩ (.int .i64 0)).setCell ⟨g + 2, 7, none⟩ (.int .i64 1)) := (Below.setCell (Below.setCell (Below.setCell (Below.setCell (Below.setCell (Below.setCell (Below.setCell (Below.setCell HB9.out (p := ⟨g + 2, 0, none⟩) (show g ≤ g + 2 by omega) _) (p := ⟨g + 2, 1, none⟩) (show g ≤ g + 2 by omega) _) (p := ⟨g + 2, 2, none⟩) (show g ≤ g + 2 by omega) _) (p := ⟨g + 2, 3, none⟩) (show g ≤ g + 2 by omega) _) (p := ⟨g + 2, 4, none⟩) (show g ≤ g + 2 by omega) _) (p := ⟨g + 2, 5, none⟩) (show g ≤ g + 2 by omega) _) (p := ⟨g + 2, 6, none⟩) (show g ≤ g + 2 by omega) _) (p := ⟨g + 2, 7, none⟩) (show g ≤ g + 2 by omega) _)
    simp only [zD] at HE
    generalize ((((((((w1.setCell ⟨g + 2, 0, none⟩ (.int .i64 0)).setCell ⟨g + 2, 1, none⟩ (.int .i64 0)).setCell ⟨g + 2, 2, none⟩ (.int .i64 0)).setCell ⟨g + 2, 3, none⟩ (.int .i64 0)).setCell ⟨g + 2, 4, none⟩ (.int .i64 0)).setCell ⟨g + 2, 5, none⟩ (.int .i64 0)).setCell ⟨g + 2, 6, none⟩ (.int .i64 0)).setCell ⟨g + 2, 7, none⟩ (.int .i64 1)) = Wf at *
    obtain ⟨y0, y1, y2, y3, y4, y5, y6⟩ := at7_open HE.1
    have y7 := HE.2
    exact bodyPost_ret (v := gotV (zD, 1)) (by simp [results, Tryd.results44, go_sem, y0, y1, y2, y3, y4, y5, y6, y7, gotV, zD]) rfl ⟨rfl, by rw [hg]; exact HB3⟩
  | true =>
    cases gb : goodD b with
    | false =>
      have HV : Hid (mulD a b = (zD, 1)) := Lib.hid (by rw [mulD, ga, gb]; rfl)
      have GA := Lib.hid (rgood_at a true ga)
      have GB := Lib.hid (rgood_at b false gb)
      clear ga gb
      unfold dv
      go_enter Tryd.func44, Tryd.ntmps44
      go_wp2_with fail
      rw [HS1.out, HS2.out, HS3.out]
      refine (GA.out _).mono ?_
      rintro e w1 ⟨rfl, hb1⟩
      rw [s3] at hb1
      obtain ⟨y0, y1, y2, y3, y4, y5, y6⟩ := at7_open (at7_below HB.out hb1 (by omega))
      have HB1 := Lib.hid hb1
      have hz1 : g + 3 ≤ w1.heap.size := by have := hb1.size; omega
      clear hb1
      go_wp2_with fail
      refine (GB.out _).mono ?_
      rintro e w2 ⟨rfl, hb2⟩
      have hb1 := HB1.out.trans (hb2.mono hz1)
      clear HB1 hb2 hz1 y0 y1 y2 y3 y4 y5 y6
      have hR1 := at8e_below HR.out hb1 (by omega)
      obtain ⟨r0, r1, r2, r3, r4, r5, r6⟩ := at7_open hR1.1
      have r7 := hR1.2
      have fr : ∀ j, w2.frozen? ⟨g + 2, j, none⟩ = false := at7f_below FR.out hb1 (by omega)
      have HR1 := Lib.hid hR1
      have HB9 := Lib.hid (HW.out.trans (hb1.mono (by omega)))
      clear hb1
      clear hR1
      go_wp2_with fail
      rw [HV.out]
      have HE := at8e_set HR1.out zD 1
      have HB3 : Below g w ((((((((w2.setCell ⟨g + 2, 0, none⟩ (.int .i64 0)).setCell ⟨g + 2, 1, none⟩ (.int .i64 0)).setCell ⟨g + 2, 2, none⟩ (.int .i64 0)).setCell ⟨g + 2, 3, none⟩ (.int .i64 0)).setCell ⟨g + 2, 4, none⟩ (.int .i64 0)).setCell ⟨g + 2, 5, none⟩ (.int .i64 0)).setCell ⟨g + 2, 6, none⟩ (.int .i64 0)).setCell ⟨g + 2, 7, none⟩ (.int .i64 1)) := (Below.setCell (Below.setCell (Below.setCell (Below.setCell (Below.setCell (Below.setCell (Below.setCell (Below.setCell HB9.out (p := ⟨g + 2, 0, none⟩) (show g ≤ g + 2 by omega) _) (p := ⟨g + 2, 1, none⟩) (show g ≤ g + 2 by omega) _) (p := ⟨g + 2, 2, none⟩) (show g ≤ g + 2 by omega) _) (p := ⟨g + 2, 3, none⟩) (show g ≤ g + 2 by omega) _) (p := ⟨g + 2, 4, none⟩) (show g ≤ g + 2 by omega) _) (p := ⟨g + 2, 5, none⟩) (show g ≤ g + 2 by omega) _) (p := ⟨g + 2, 6, none⟩) (show g ≤ g + 2 by omega) _) (p := ⟨g + 2, 7, none⟩) (show g ≤ g + 2 by omega) _)
      simp only [zD] at HE
      generalize ((((((((w2.setCell ⟨g + 2, 0, none⟩ (.int .i64 0)).setCell ⟨g + 2, 1, none⟩ (.int .i64 0)).setCell ⟨g + 2, 2, none⟩ (.int .i64 0)).setCell ⟨g + 2, 3, none⟩ (.int .i64 0)).setCell ⟨g + 2, 4, none⟩ (.int .i64 0)).setCell ⟨g + 2, 5, none⟩ (.int .i64 0)).setCell ⟨g + 2, 6, none⟩ (.int .i64 0)).setCell ⟨g + 2, 7, none⟩ (.int .i64 1)) = Wf at *
      obtain ⟨y0, y1, y2, y3, y4, y5, y6⟩ := at7_open HE.1
      have y7 := HE.2
      exact bodyPost_ret (v := gotV (zD, 1)) (by simp [results, Tryd.results44, go_sem, y0, y1, y2, y3, y4, y5, y6, y7, gotV, zD]) rfl ⟨rfl, by rw [hg]; exact HB3⟩
    | true =>
      have HV : Hid (mulD a b = toldD (addD a b)) := Lib.hid (by rw [mulD, ga, gb]; rfl)
      have GA := Lib.hid (rgood_at a true ga)
      have GB := Lib.hid (rgood_at b true gb)
      have HA7 := Lib.hid (fun k hk => goodD_at ga k hk)
      have HB7 := Lib.hid (fun k hk => goodD_at gb k hk)
      obtain ⟨⟨rd, re⟩, hr⟩ : ∃ r, toldD (addD a b) = r := ⟨_, rfl⟩
      have GT := Lib.hid (rmay_at (addD a b) (rd, re) hr)
      rw [hr] at HV
      clear ga gb hr
      unfold dv
      go_enter Tryd.func44, Tryd.ntmps44
      go_wp2_with fail
      rw [HS1.out, HS2.out, HS3.out]
      refine (GA.out _).mono ?_
      rintro e w1 ⟨rfl, hb1⟩
      rw [s3] at hb1
      obtain ⟨y0, y1, y2, y3, y4, y5, y6⟩ := at7_open (at7_below HB.out hb1 (by omega))
      have HB1 := Lib.hid hb1
      have hz1 : g + 3 ≤ w1.heap.size := by have := hb1.size; omega
      clear hb1
      go_wp2_with fail
      refine (GB.out _).mono ?_
      rintro e w2 ⟨rfl, hb2⟩
      have hb1 := HB1.out.trans (hb2.mono hz1)
      have hz2 : g + 3 ≤ w2.heap.size := by have := hb1.size; omega
      have HA2 := Lib.hid (at7_below HA.out hb1 (by omega))
      have HB2 := Lib.hid (at7_below HB.out hb1 (by omega))
      have HR2 := Lib.hid (at8e_below HR.out hb1 (by omega))
      have FA2 := Lib.hid (at7f_below FA.out hb1 (by omega))
      have FR2 := Lib.hid (at7f_below FR.out hb1 (by omega))
      have HW2 := Lib.hid (HW.out.trans (hb1.mono (by omega)))
      clear HB1 hb1 hb2 hz1 y0 y1 y2 y3 y4 y5 y6 HA HB HR FA FR HW HS1 HS2 HS3 GA GB
      go_wp2_with fail
      go_loopw [7] (fun i wr => ∃ k : Nat, i = .int .i64 k ∧ k ≤ 7 ∧ Hid (at7 wr g (mixD a (addD a b) k)) ∧ Hid (at7 wr (g + 1) b) ∧ Hid (at8e wr (g + 2) zD 0) ∧ Hid (at7f wr g) ∧ Hid (at7f wr (g + 2)) ∧ Hid (Below g w wr) ∧ g + 3 ≤ wr.heap.size) (fun i _ => 7 - (intOf i).toNat)
      case atStart => exact ⟨0, rfl, Nat.zero_le _, Lib.hid (by rw [mix_zero]; exact HA2.out), HB2, HR2, FA2, FR2, HW2, hz2⟩
      case round =>
        obtain ⟨k, rfl, hk, KA, KB, KR, KF, KG, KW, hz⟩ := hrel
        by_cases hlt : k < 7
        · have ca : wr.cell? ⟨g, k, none⟩ = some (.int .i64 (a k)) := by rw [KA.out k hlt, mix_here]
          have cb : wr.cell? ⟨g + 1, k, none⟩ = some (.int .i64 (b k)) := KB.out k hlt
          have cf : wr.frozen? ⟨g, k, none⟩ = false := KF.out k
          obtain ⟨ha1, ha2⟩ := HA7.out k hlt
          obtain ⟨hb1, hb2⟩ := HB7.out k hlt
          have q1 : IntKind.i64.wrap (1 * b k) = b k := by rw [IntKind.wrap_i64]; omega
          have q2 : IntKind.i64.wrap (b k) = b k := by rw [IntKind.wrap_i64]; omega
          have q3 : IntKind.i64.wrap (a k + b k) = addD a b k := by rw [IntKind.wrap_i64, addD]; omega
          go_wp2_with fail
          go_region
          go_wp2_with fail
          go_roundw
          case rel => exact ⟨k + 1, by go_num, by omega, Lib.hid (at7_mix (w := wr.drew) KA.out hlt), Lib.hid (at7_other (w := wr.drew) KB.out ⟨g, k, none⟩ (by simp) _), Lib.hid (at8e_other (w := wr.drew) KR.out ⟨g, k, none⟩ (by simp) _), Lib.hid (fun j => by simpa using KF.out j), Lib.hid (fun j => by simpa using KG.out j), Lib.hid (KW.out.setCell (show g ≤ g from Nat.le_refl g) _).drew, by simpa using hz⟩
          case measure => simp [intOf]; omega
        · obtain rfl : k = 7 := by omega
          have hE := at7_congr KA.out (mix_seven a (addD a b))
          obtain ⟨x0, x1, x2, x3, x4, x5, x6⟩ := at7_open hE
          clear hE KA KB KF hk hlt
          go_wp2_with fail
          refine (GT.out _).mono ?_
          rintro e w3 ⟨rfl, hb3⟩
          simp only [gotV]
          have hR1 := at8e_below KR.out hb3 (by omega)
          obtain ⟨r0, r1, r2, r3, r4, r5, r6⟩ := at7_open hR1.1
          have r7 := hR1.2
          have fr : ∀ j, w3.frozen? ⟨g + 2, j, none⟩ = false := at7f_below KG.out hb3 (by omega)
          have HR1 := Lib.hid hR1
          have HB9 := Lib.hid (KW.out.trans (hb3.mono (by omega)))
          clear hb3 x0 x1 x2 x3 x4 x5 x6 GT KR KG KW HA2 HB2 HR2 FA2 FR2 HW2
          clear hR1
          go_wp2_with fail
          rw [HV.out]
          have HE := at8e_set HR1.out rd re
          have HB3 : Below g w ((((((((w3.setCell ⟨g + 2, 0, none⟩ (.int .i64 (rd 0))).setCell ⟨g + 2, 1, none⟩ (.int .i64 (rd 1))).setCell ⟨g + 2, 2, none⟩ (.int .i64 (rd 2))).setCell ⟨g + 2, 3, none⟩ (.int .i64 (rd 3))).setCell ⟨g + 2, 4, none⟩ (.int .i64 (rd 4))).setCell ⟨g + 2, 5, none⟩ (.int .i64 (rd 5))).setCell ⟨g + 2, 6, none⟩ (.int .i64 (rd 6))).setCell ⟨g + 2, 7, none⟩ (.int .i64 re)) := (Below.setCell (Below.setCell (Below.setCell (Below.setCell (Below.setCell (Below.setCell (Below.setCell (Below.setCell HB9.out (p := ⟨g + 2, 0, none⟩) (show g ≤ g + 2 by omega) _) (p := ⟨g + 2, 1, none⟩) (show g ≤ g + 2 by omega) _) (p := ⟨g + 2, 2, none⟩) (show g ≤ g + 2 by omega) _) (p := ⟨g + 2, 3, none⟩) (show g ≤ g + 2 by omega) _) (p := ⟨g + 2, 4, none⟩) (show g ≤ g + 2 by omega) _) (p := ⟨g + 2, 5, none⟩) (show g ≤ g + 2 by omega) _) (p := ⟨g + 2, 6, none⟩) (show g ≤ g + 2 by omega) _) (p := ⟨g + 2, 7, none⟩) (show g ≤ g + 2 by omega) _)
          skip
          generalize ((((((((w3.setCell ⟨g + 2, 0, none⟩ (.int .i64 (rd 0))).setCell ⟨g + 2, 1, none⟩ (.int .i64 (rd 1))).setCell ⟨g + 2, 2, none⟩ (.int .i64 (rd 2))).setCell ⟨g + 2, 3, none⟩ (.int .i64 (rd 3))).setCell ⟨g + 2, 4, none⟩ (.int .i64 (rd 4))).setCell ⟨g + 2, 5, none⟩ (.int .i64 (rd 5))).setCell ⟨g + 2, 6, none⟩ (.int .i64 (rd 6))).setCell ⟨g + 2, 7, none⟩ (.int .i64 re)) = Wf at *
          obtain ⟨y0, y1, y2, y3, y4, y5, y6⟩ := at7_open HE.1
          have y7 := HE.2
          exact bodyPost_ret (v := gotV (rd, re)) (by simp [results, Tryd.results44, go_sem, y0, y1, y2, y3, y4, y5, y6, y7, gotV, zD]) rfl ⟨rfl, by rw [hg]; exact HB3⟩

set_option maxRecDepth 20000 in
set_option maxHeartbeats 4000000 in
theorem rdiv_any (a b : Nat → Int) (w : World) :
    Calls Tryd.prog 44 #[dv a, dv b, .int .i64 (-1)] w fun e w' => e = .returned (gotV (divD a b)) ∧ Below w.heap.size w w' := by
  obtain ⟨g, hg⟩ : ∃ g, w.heap.size = g := ⟨_, rfl⟩
  obtain ⟨V1, e1⟩ : ∃ V, w.alloc (.cells #[.int .i64 (a 0), .int .i64 (a 1), .int .i64 (a 2), .int .i64 (a 3), .int .i64 (a 4), .int .i64 (a 5), .int .i64 (a 6)] 65) = V := ⟨_, rfl⟩
  obtain ⟨V2, e2⟩ : ∃ V, V1.alloc (.cells #[.int .i64 (b 0), .int .i64 (b 1), .int .i64 (b 2), .int .i64 (b 3), .int .i64 (b 4), .int .i64 (b 5), .int .i64 (b 6)] 65) = V := ⟨_, rfl⟩
  obtain ⟨W, e3⟩ : ∃ V, V2.alloc (.cells #[.int .i64 0, .int .i64 0, .int .i64 0, .int .i64 0, .int .i64 0, .int .i64 0, .int .i64 0, .int .i64 0] 70) = V := ⟨_, rfl⟩
  have s1 : V1.heap.size = g + 1 := by rw [← e1, ← hg]; simp
  have s2 : V2.heap.size = g + 2 := by rw [← e2]; simp [s1]
  have s3 : W.heap.size = g + 3 := by rw [← e3]; simp [s2]
  have k1 : Below g w V1 := by rw [← e1, ← hg]; exact alloc_keep _ _
  have k2 : Below (g + 1) V1 V2 := by rw [← e2, ← s1]; exact alloc_keep _ _
  have k3 : Below (g + 2) V2 W := by rw [← e3, ← s2]; exact alloc_keep _ _
  have HA : Hid (at7 W g a) := Lib.hid (at7_below (at7_below (by rw [← e1, ← hg]; exact at7_alloc w a _ : at7 V1 g a) k2 (by omega)) k3 (by omega))
  have HB : Hid (at7 W (g + 1) b) := Lib.hid (at7_below (by rw [← e2, ← s1]; exact at7_alloc V1 b _ : at7 V2 (g + 1) b) k3 (by omega))
  have HR : Hid (at8e W (g + 2) zD 0) := Lib.hid (by
    rw [← e3, ← s2]
    refine ⟨fun j hj => ?_, by simp⟩
    rcases below7 hj with h | h | h | h | h | h | h <;> subst h <;> simp [zD])
  have FA : Hid (at7f W g) := Lib.hid (at7f_below (at7f_below (fun j => by rw [← e1, ← hg]; apply World.frozen?_alloc_new : at7f V1 g) k2 (by omega)) k3 (by omega))
  have FR : Hid (at7f W (g + 2)) := Lib.hid (fun j => by rw [← e3, ← s2]; apply World.frozen?_alloc_new)
  have HW : Hid (Below g w W) := Lib.hid ((k1.trans (k2.mono (by omega))).trans (k3.mono (by omega)))
  have HS1 := Lib.hid e1
  have HS2 := Lib.hid e2
  have HS3 := Lib.hid e3
  clear e1 e2 e3 k1 k2 k3 s1 s2
  cases ga : goodD a with
  | false =>
    have HV : Hid (divD a b = (zD, 1)) := Lib.hid (by rw [divD, ga]; rfl)
    have GA := Lib.hid (rgood_at a false ga)
    clear ga
    unfold dv
    go_enter Tryd.func44, Tryd.ntmps44
    go_wp2_with fail
    rw [HS1.out, HS2.out, HS3.out]
    refine (GA.out _).mono ?_
    rintro e w1 ⟨rfl, hb1⟩
    rw [s3] at hb1
    have hR1 := at8e_below HR.out hb1 (by omega)
    obtain ⟨r0, r1, r2, r3, r4, r5, r6⟩ := at7_open hR1.1
    have r7 := hR1.2
    have fr : ∀ j, w1.frozen? ⟨g + 2, j, none⟩ = false := at7f_below FR.out hb1 (by omega)
    have HR1 := Lib.hid hR1
    have HB9 := Lib.hid (HW.out.trans (hb1.mono (by omega)))
    clear hb1
    clear hR1
    go_wp2_with fail
    rw [HV.out]
    have HE := at8e_set HR1.out zD 1
    have HB3 : Below g w ((((((((w1.setCell ⟨g + 2, 0, none⟩ (.int .i64 0)).setCell ⟨g + 2, 1, none⟩ (.int .i64 0)).setCell ⟨g + 2, 2, none⟩ (.int .i64 0)).setCell ⟨g + 2, 3, none⟩ (.int .i64 0)).setCell ⟨g + 2, 4, none⟩ (.int .i64 0)).setCell ⟨g + 2, 5, none⟩ (.int .i64 0)).setCell ⟨g + 2, 6, none⟩ (.int .i64 0)).setCell ⟨g + 2, 7, none⟩ (.int .i64 1)) := (Below.setCell (Below.setCell (Below.setCell (Below.setCell (Below.setCell (Below.setCell (Below.setCell (Below.setCell HB9.out (p := ⟨g + 2, 0, none⟩) (show g ≤ g + 2 by omega) _) (p := ⟨g + 2, 1, none⟩) (show g ≤ g + 2 by omega) _) (p := ⟨g + 2, 2, none⟩) (show g ≤ g + 2 by omega) _) (p := ⟨g + 2, 3, none⟩) (show g ≤ g + 2 by omega) _) (p := ⟨g + 2, 4, none⟩) (show g ≤ g + 2 by omega) _) (p := ⟨g + 2, 5, none⟩) (show g ≤ g + 2 by omega) _) (p := ⟨g + 2, 6, none⟩) (show g ≤ g + 2 by omega) _) (p := ⟨g + 2, 7, none⟩) (show g ≤ g + 2 by omega) _)
    simp only [zD] at HE
    generalize ((((((((w1.setCell ⟨g + 2, 0, none⟩ (.int .i64 0)).setCell ⟨g + 2, 1, none⟩ (.int .i64 0)).setCell ⟨g + 2, 2, none⟩ (.int .i64 0)).setCell ⟨g + 2, 3, none⟩ (.int .i64 0)).setCell ⟨g + 2, 4, none⟩ (.int .i64 0)).setCell ⟨g + 2, 5, none⟩ (.int .i64 0)).setCell ⟨g + 2, 6, none⟩ (.int .i64 0)).setCell ⟨g + 2, 7, none⟩ (.int .i64 1)) = Wf at *
    obtain ⟨y0, y1, y2, y3, y4, y5, y6⟩ := at7_open HE.1
    have y7 := HE.2
    exact bodyPost_ret (v := gotV (zD, 1)) (by simp [results, Tryd.results44, go_sem, y0, y1, y2, y3, y4, y5, y6, y7, gotV, zD]) rfl ⟨rfl, by rw [hg]; exact HB3⟩
  | true =>
    cases gb : goodD b with
    | false =>
      have HV : Hid (divD a b = (zD, 1)) := Lib.hid (by rw [divD, ga, gb]; rfl)
      have GA := Lib.hid (rgood_at a true ga)
      have GB := Lib.hid (rgood_at b false gb)
      clear ga gb
      unfold dv
      go_enter Tryd.func44, Tryd.ntmps44
      go_wp2_with fail
      rw [HS1.out, HS2.out, HS3.out]
      refine (GA.out _).mono ?_
      rintro e w1 ⟨rfl, hb1⟩
      rw [s3] at hb1
      obtain ⟨y0, y1, y2, y3, y4, y5, y6⟩ := at7_open (at7_below HB.out hb1 (by omega))
      have HB1 := Lib.hid hb1
      have hz1 : g + 3 ≤ w1.heap.size := by have := hb1.size; omega
      clear hb1
      go_wp2_with fail
      refine (GB.out _).mono ?_
      rintro e w2 ⟨rfl, hb2⟩
      have hb1 := HB1.out.trans (hb2.mono hz1)
      clear HB1 hb2 hz1 y0 y1 y2 y3 y4 y5 y6
      have hR1 := at8e_below HR.out hb1 (by omega)
      obtain ⟨r0, r1, r2, r3, r4, r5, r6⟩ := at7_open hR1.1
      have r7 := hR1.2
      have fr : ∀ j, w2.frozen? ⟨g + 2, j, none⟩ = false := at7f_below FR.out hb1 (by omega)
      have HR1 := Lib.hid hR1
      have HB9 := Lib.hid (HW.out.trans (hb1.mono (by omega)))
      clear hb1
      clear hR1
      go_wp2_with fail
      rw [HV.out]
      have HE := at8e_set HR1.out zD 1
      have HB3 : Below g w ((((((((w2.setCell ⟨g + 2, 0, none⟩ (.int .i64 0)).setCell ⟨g + 2, 1, none⟩ (.int .i64 0)).setCell ⟨g + 2, 2, none⟩ (.int .i64 0)).setCell ⟨g + 2, 3, none⟩ (.int .i64 0)).setCell ⟨g + 2, 4, none⟩ (.int .i64 0)).setCell ⟨g + 2, 5, none⟩ (.int .i64 0)).setCell ⟨g + 2, 6, none⟩ (.int .i64 0)).setCell ⟨g + 2, 7, none⟩ (.int .i64 1)) := (Below.setCell (Below.setCell (Below.setCell (Below.setCell (Below.setCell (Below.setCell (Below.setCell (Below.setCell HB9.out (p := ⟨g + 2, 0, none⟩) (show g ≤ g + 2 by omega) _) (p := ⟨g + 2, 1, none⟩) (show g ≤ g + 2 by omega) _) (p := ⟨g + 2, 2, none⟩) (show g ≤ g + 2 by omega) _) (p := ⟨g + 2, 3, none⟩) (show g ≤ g + 2 by omega) _) (p := ⟨g + 2, 4, none⟩) (show g ≤ g + 2 by omega) _) (p := ⟨g + 2, 5, none⟩) (show g ≤ g + 2 by omega) _) (p := ⟨g + 2, 6, none⟩) (show g ≤ g + 2 by omega) _) (p := ⟨g + 2, 7, none⟩) (show g ≤ g + 2 by omega) _)
      simp only [zD] at HE
      generalize ((((((((w2.setCell ⟨g + 2, 0, none⟩ (.int .i64 0)).setCell ⟨g + 2, 1, none⟩ (.int .i64 0)).setCell ⟨g + 2, 2, none⟩ (.int .i64 0)).setCell ⟨g + 2, 3, none⟩ (.int .i64 0)).setCell ⟨g + 2, 4, none⟩ (.int .i64 0)).setCell ⟨g + 2, 5, none⟩ (.int .i64 0)).setCell ⟨g + 2, 6, none⟩ (.int .i64 0)).setCell ⟨g + 2, 7, none⟩ (.int .i64 1)) = Wf at *
      obtain ⟨y0, y1, y2, y3, y4, y5, y6⟩ := at7_open HE.1
      have y7 := HE.2
      exact bodyPost_ret (v := gotV (zD, 1)) (by simp [results, Tryd.results44, go_sem, y0, y1, y2, y3, y4, y5, y6, y7, gotV, zD]) rfl ⟨rfl, by rw [hg]; exact HB3⟩
    | true =>
      have HV : Hid (divD a b = toldD (subD a b)) := Lib.hid (by rw [divD, ga, gb]; rfl)
      have GA := Lib.hid (rgood_at a true ga)
      have GB := Lib.hid (rgood_at b true gb)
      have HA7 := Lib.hid (fun k hk => goodD_at ga k hk)
      have HB7 := Lib.hid (fun k hk => goodD_at gb k hk)
      obtain ⟨⟨rd, re⟩, hr⟩ : ∃ r, toldD (subD a b) = r := ⟨_, rfl⟩
      have GT := Lib.hid (rmay_at (subD a b) (rd, re) hr)
      rw [hr] at HV
      clear ga gb hr
      unfold dv
      go_enter Tryd.func44, Tryd.ntmps44
      go_wp2_with fail
      rw [HS1.out, HS2.out, HS3.out]
      refine (GA.out _).mono ?_
      rintro e w1 ⟨rfl, hb1⟩
      rw [s3] at hb1
      obtain ⟨y0, y1, y2, y3, y4, y5, y6⟩ := at7_open (at7_below HB.out hb1 (by omega))
      have HB1 := Lib.hid hb1
      have hz1 : g + 3 ≤ w1.heap.size := by have := hb1.size; omega
      clear hb1
      go_wp2_with fail
      refine (GB.out _).mono ?_
      rintro e w2 ⟨rfl, hb2⟩
      have hb1 := HB1.out.trans (hb2.mono hz1)
      have hz2 : g + 3 ≤ w2.heap.size := by have := hb1.size; omega
      have HA2 := Lib.hid (at7_below HA.out hb1 (by omega))
      have HB2 := Lib.hid (at7_below HB.out hb1 (by omega))
      have HR2 := Lib.hid (at8e_below HR.out hb1 (by omega))
      have FA2 := Lib.hid (at7f_below FA.out hb1 (by omega))
      have FR2 := Lib.hid (at7f_below FR.out hb1 (by omega))
      have HW2 := Lib.hid (HW.out.trans (hb1.mono (by omega)))
      clear HB1 hb1 hb2 hz1 y0 y1 y2 y3 y4 y5 y6 HA HB HR FA FR HW HS1 HS2 HS3 GA GB
      go_wp2_with fail
      go_loopw [7] (fun i wr => ∃ k : Nat, i = .int .i64 k ∧ k ≤ 7 ∧ Hid (at7 wr g (mixD a (subD a b) k)) ∧ Hid (at7 wr (g + 1) b) ∧ Hid (at8e wr (g + 2) zD 0) ∧ Hid (at7f wr g) ∧ Hid (at7f wr (g + 2)) ∧ Hid (Below g w wr) ∧ g + 3 ≤ wr.heap.size) (fun i _ => 7 - (intOf i).toNat)
      case atStart => exact ⟨0, rfl, Nat.zero_le _, Lib.hid (by rw [mix_zero]; exact HA2.out), HB2, HR2, FA2, FR2, HW2, hz2⟩
      case round =>
        obtain ⟨k, rfl, hk, KA, KB, KR, KF, KG, KW, hz⟩ := hrel
        by_cases hlt : k < 7
        · have ca : wr.cell? ⟨g, k, none⟩ = some (.int .i64 (a k)) := by rw [KA.out k hlt, mix_here]
          have cb : wr.cell? ⟨g + 1, k, none⟩ = some (.int .i64 (b k)) := KB.out k hlt
          have cf : wr.frozen? ⟨g, k, none⟩ = false := KF.out k
          obtain ⟨ha1, ha2⟩ := HA7.out k hlt
          obtain ⟨hb1, hb2⟩ := HB7.out k hlt
          have q1 : IntKind.i64.wrap (-1 * b k) = -b k := by rw [IntKind.wrap_i64]; omega
          have q2 : IntKind.i64.wrap (-b k) = -b k := by rw [IntKind.wrap_i64]; omega
          have q3 : IntKind.i64.wrap (a k + -b k) = subD a b k := by rw [IntKind.wrap_i64, subD]; omega
          go_wp2_with fail
          go_region
          go_wp2_with fail
          go_roundw
          case rel => exact ⟨k + 1, by go_num, by omega, Lib.hid (at7_mix (w := wr.drew) KA.out hlt), Lib.hid (at7_other (w := wr.drew) KB.out ⟨g, k, none⟩ (by simp) _), Lib.hid (at8e_other (w := wr.drew) KR.out ⟨g, k, none⟩ (by simp) _), Lib.hid (fun j => by simpa using KF.out j), Lib.hid (fun j => by simpa using KG.out j), Lib.hid (KW.out.setCell (show g ≤ g from Nat.le_refl g) _).drew, by simpa using hz⟩
          case measure => simp [intOf]; omega
        · obtain rfl : k = 7 := by omega
          have hE := at7_congr KA.out (mix_seven a (subD a b))
          obtain ⟨x0, x1, x2, x3, x4, x5, x6⟩ := at7_open hE
          clear hE KA KB KF hk hlt
          go_wp2_with fail
          refine (GT.out _).mono ?_
          rintro e w3 ⟨rfl, hb3⟩
          simp only [gotV]
          have hR1 := at8e_below KR.out hb3 (by omega)
          obtain ⟨r0, r1, r2, r3, r4, r5, r6⟩ := at7_open hR1.1
          have r7 := hR1.2
          have fr : ∀ j, w3.frozen? ⟨g + 2, j, none⟩ = false := at7f_below KG.out hb3 (by omega)
          have HR1 := Lib.hid hR1
          have HB9 := Lib.hid (KW.out.trans (hb3.mono (by omega)))
          clear hb3 x0 x1 x2 x3 x4 x5 x6 GT KR KG KW HA2 HB2 HR2 FA2 FR2 HW2
          clear hR1
          go_wp2_with fail
          rw [HV.out]
          have HE := at8e_set HR1.out rd re
          have HB3 : Below g w ((((((((w3.setCell ⟨g + 2, 0, none⟩ (.int .i64 (rd 0))).setCell ⟨g + 2, 1, none⟩ (.int .i64 (rd 1))).setCell ⟨g + 2, 2, none⟩ (.int .i64 (rd 2))).setCell ⟨g + 2, 3, none⟩ (.int .i64 (rd 3))).setCell ⟨g + 2, 4, none⟩ (.int .i64 (rd 4))).setCell ⟨g + 2, 5, none⟩ (.int .i64 (rd 5))).setCell ⟨g + 2, 6, none⟩ (.int .i64 (rd 6))).setCell ⟨g + 2, 7, none⟩ (.int .i64 re)) := (Below.setCell (Below.setCell (Below.setCell (Below.setCell (Below.setCell (Below.setCell (Below.setCell (Below.setCell HB9.out (p := ⟨g + 2, 0, none⟩) (show g ≤ g + 2 by omega) _) (p := ⟨g + 2, 1, none⟩) (show g ≤ g + 2 by omega) _) (p := ⟨g + 2, 2, none⟩) (show g ≤ g + 2 by omega) _) (p := ⟨g + 2, 3, none⟩) (show g ≤ g + 2 by omega) _) (p := ⟨g + 2, 4, none⟩) (show g ≤ g + 2 by omega) _) (p := ⟨g + 2, 5, none⟩) (show g ≤ g + 2 by omega) _) (p := ⟨g + 2, 6, none⟩) (show g ≤ g + 2 by omega) _) (p := ⟨g + 2, 7, none⟩) (show g ≤ g + 2 by omega) _)
          skip
          generalize ((((((((w3.setCell ⟨g + 2, 0, none⟩ (.int .i64 (rd 0))).setCell ⟨g + 2, 1, none⟩ (.int .i64 (rd 1))).setCell ⟨g + 2, 2, none⟩ (.int .i64 (rd 2))).setCell ⟨g + 2, 3, none⟩ (.int .i64 (rd 3))).setCell ⟨g + 2, 4, none⟩ (.int .i64 (rd 4))).setCell ⟨g + 2, 5, none⟩ (.int .i64 (rd 5))).setCell ⟨g + 2, 6, none⟩ (.int .i64 (rd 6))).setCell ⟨g + 2, 7, none⟩ (.int .i64 re)) = Wf at *
          obtain ⟨y0, y1, y2, y3, y4, y5, y6⟩ := at7_open HE.1
          have y7 := HE.2
          exact bodyPost_ret (v := gotV (rd, re)) (by simp [results, Tryd.results44, go_sem, y0, y1, y2, y3, y4, y5, y6, y7, gotV, zD]) rfl ⟨rfl, by rw [hg]; exact HB3⟩
end Go.Proofs.YtcajdkncohcaeaaDoor
