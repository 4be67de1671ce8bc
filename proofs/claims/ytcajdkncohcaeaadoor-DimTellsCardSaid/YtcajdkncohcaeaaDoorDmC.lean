import Derived.Test.YtcajdkncohcaeaaDoorDmB
import Derived.Deep.RegionLaw
namespace Go.Proofs.YtcajdkncohcaeaaDoor
set_option linter.unusedVariables false
set_option linter.unusedSimpArgs false
open Go.RowKit Go.Proofs.YtcajdkncohcaeaaDoorW.PrintWords

/-- the first k exponents by f, the others as they were -/
def mixD (a f : Nat → Int) (k : Nat) : Nat → Int := fun i => if i < k then f i else a i
theorem mix_zero (a f : Nat → Int) : mixD a f 0 = a := by funext i; unfold mixD; rw [if_neg (by omega)]
theorem mix_here (a f : Nat → Int) (k : Nat) : mixD a f k k = a k := by unfold mixD; rw [if_neg (by omega)]
theorem at7_mix {w : World} {b : Nat} {a f : Nat → Int} {k : Nat} (h : at7 w b (mixD a f k)) (hk : k < 7) : at7 (w.setCell ⟨b, k, none⟩ (.int .i64 (f k))) b (mixD a f (k + 1)) := by
  intro j hj
  by_cases e : j = k
  · subst e
    rw [World.cell?_setCell_same _ _ _ (h j hj)]
    unfold mixD; rw [if_pos (by omega)]
  · rw [World.cell?_setCell_other _ _ _ _ (by intro h; injection h with h1 h2; exact e h2.symm), h j hj]
    unfold mixD
    by_cases hjk : j < k
    · rw [if_pos hjk, if_pos (by omega)]
    · rw [if_neg hjk, if_neg (by omega)]
theorem at7_congr {w : World} {b : Nat} {a c : Nat → Int} (h : at7 w b a) (e : ∀ j, j < 7 → a j = c j) : at7 w b c := fun j hj => by rw [h j hj, e j hj]
theorem mix_seven (a f : Nat → Int) (j : Nat) (hj : j < 7) : mixD a f 7 j = f j := by unfold mixD; rw [if_pos hj]
theorem goodD_at {a : Nat → Int} (h : goodD a = true) (k : Nat) (hk : k < 7) : -200 ≤ a k ∧ a k ≤ 200 := by
  unfold goodD goodFrom at h
  simp only [List.drop_zero, List.all_cons, List.all_nil, Bool.and_true, Bool.and_eq_true] at h
  obtain ⟨h0, h1, h2, h3, h4, h5, h6⟩ := h
  rcases below7 hk with e | e | e | e | e | e | e <;> subst e <;> (apply okE_true; assumption)
theorem dtold_at (a : Nat → Int) (r : (Nat → Int) × Int) (h : toldD a = r) (w : World) :
    Calls Tryd.prog 65 #[.agg #[.int .i64 (a 0), .int .i64 (a 1), .int .i64 (a 2), .int .i64 (a 3), .int .i64 (a 4), .int .i64 (a 5), .int .i64 (a 6)]] w fun e w' => e = .returned (.tuple #[dv r.1, .int .i64 r.2]) ∧ Below w.heap.size w w' := by
  have := dtold_any a w
  rwa [h] at this
def at7f (w : World) (b : Nat) : Prop := ∀ j, w.frozen? ⟨b, j, none⟩ = false
theorem at7f_below {w w' : World} {b n : Nat} (h : at7f w b) (hB : Below n w w') (hb : b < n) : at7f w' b := fun j => (hB.frozen (p := ⟨b, j, none⟩) hb).trans (h j)

def addD (a b : Nat → Int) : Nat → Int := fun i => a i + b i
def mulD (a b : Nat → Int) : (Nat → Int) × Int := if goodD a = true then (if goodD b = true then toldD (addD a b) else (zD, 1)) else (zD, 1)
set_option maxRecDepth 20000 in
set_option maxHeartbeats 2000000 in
theorem dmul_any (a b : Nat → Int) (w : World) :
    Calls Tryd.prog 41 #[dv a, dv b] w fun e w' => e = .returned (.tuple #[dv (mulD a b).1, .int .i64 (mulD a b).2]) ∧ Below w.heap.size w w' := by
  obtain ⟨W, hW⟩ : ∃ W, ((w.alloc (.cells #[.int .i64 (a 0), .int .i64 (a 1), .int .i64 (a 2), .int .i64 (a 3), .int .i64 (a 4), .int .i64 (a 5), .int .i64 (a 6)] 65)).alloc (.cells #[.int .i64 (b 0), .int .i64 (b 1), .int .i64 (b 2), .int .i64 (b 3), .int .i64 (b 4), .int .i64 (b 5), .int .i64 (b 6)] 65)).alloc (.cells #[.int .i64 0, .int .i64 0, .int .i64 0, .int .i64 0, .int .i64 0, .int .i64 0, .int .i64 0] 65) = W := ⟨_, rfl⟩
  obtain ⟨g, hg⟩ : ∃ g, w.heap.size = g := ⟨_, rfl⟩
  have s1 : (w.alloc (.cells #[.int .i64 (a 0), .int .i64 (a 1), .int .i64 (a 2), .int .i64 (a 3), .int .i64 (a 4), .int .i64 (a 5), .int .i64 (a 6)] 65)).heap.size = g + 1 := by rw [← hg]; simp
  have s2 : ((w.alloc (.cells #[.int .i64 (a 0), .int .i64 (a 1), .int .i64 (a 2), .int .i64 (a 3), .int .i64 (a 4), .int .i64 (a 5), .int .i64 (a 6)] 65)).alloc (.cells #[.int .i64 (b 0), .int .i64 (b 1), .int .i64 (b 2), .int .i64 (b 3), .int .i64 (b 4), .int .i64 (b 5), .int .i64 (b 6)] 65)).heap.size = g + 2 := by rw [← hg]; simp
  have s3 : W.heap.size = g + 3 := by rw [← hW, ← hg]; simp
  have hBW : Below g w W := by rw [← hW, ← hg]; exact bl_alloc (bl_alloc (bl_alloc (Below.refl _ _) _) _) _
  have hb2 := alloc_keep (w.alloc (.cells #[.int .i64 (a 0), .int .i64 (a 1), .int .i64 (a 2), .int .i64 (a 3), .int .i64 (a 4), .int .i64 (a 5), .int .i64 (a 6)] 65)) (.cells #[.int .i64 (b 0), .int .i64 (b 1), .int .i64 (b 2), .int .i64 (b 3), .int .i64 (b 4), .int .i64 (b 5), .int .i64 (b 6)] 65)
  have hb3 := alloc_keep ((w.alloc (.cells #[.int .i64 (a 0), .int .i64 (a 1), .int .i64 (a 2), .int .i64 (a 3), .int .i64 (a 4), .int .i64 (a 5), .int .i64 (a 6)] 65)).alloc (.cells #[.int .i64 (b 0), .int .i64 (b 1), .int .i64 (b 2), .int .i64 (b 3), .int .i64 (b 4), .int .i64 (b 5), .int .i64 (b 6)] 65)) (.cells #[.int .i64 0, .int .i64 0, .int .i64 0, .int .i64 0, .int .i64 0, .int .i64 0, .int .i64 0] 65)
  rw [s1] at hb2
  rw [s2, hW] at hb3
  have hA : at7 W g a := at7_below (at7_below (hg ▸ at7_alloc w a 65) hb2 (by omega)) hb3 (by omega)
  have hB : at7 W (g + 1) b := at7_below (s1 ▸ at7_alloc (w.alloc (.cells #[.int .i64 (a 0), .int .i64 (a 1), .int .i64 (a 2), .int .i64 (a 3), .int .i64 (a 4), .int .i64 (a 5), .int .i64 (a 6)] 65)) b 65) hb3 (by omega)
  have hR : at7 W (g + 2) zD := by rw [← hW, ← s2]; exact at7_zero _ _
  have fA : at7f W g := at7f_below (at7f_below (fun j => by rw [← hg]; simp : at7f (w.alloc (.cells #[.int .i64 (a 0), .int .i64 (a 1), .int .i64 (a 2), .int .i64 (a 3), .int .i64 (a 4), .int .i64 (a 5), .int .i64 (a 6)] 65)) g) hb2 (by omega)) hb3 (by omega)
  have fR : at7f W (g + 2) := fun j => by rw [← hW, ← s2]; apply World.frozen?_alloc_new
  have HA := Lib.hid hA
  have HB := Lib.hid hB
  have HR := Lib.hid hR
  have FA := Lib.hid fA
  have FR := Lib.hid fR
  have HW := Lib.hid hBW
  have HS := Lib.hid hW
  clear hA hB hR fA fR hBW hb2 hb3 s1 s2 hW
  cases ga : goodD a with
  | false =>
    have HV : Hid (mulD a b = (zD, 1)) := Lib.hid (by rw [mulD, ga]; rfl)
    have GA := Lib.hid (dgood_at a false ga)
    clear ga
    unfold dv
    go_enter Tryd.func41, Tryd.ntmps41
    go_wp2_with fail
    rw [HS.out]
    refine (GA.out _).mono ?_
    rintro e w1 ⟨rfl, hb1⟩
    rw [s3] at hb1
    obtain ⟨r0, r1, r2, r3, r4, r5, r6⟩ := at7_open (at7_below HR.out hb1 (by omega))
    have fr : ∀ j, w1.frozen? ⟨g + 2, j, none⟩ = false := at7f_below FR.out hb1 (by omega)
    have HR2 := Lib.hid (at7_below HR.out hb1 (by omega))
    have HB2 := Lib.hid (HW.out.trans (hb1.mono (by omega)))
    clear hb1
    go_wp2_with fail
    rw [HV.out]
    have HE := at7_set HR2.out zD
    have HB3 := below_set7 (hg ▸ HB2.out) (g + 2) (by omega) (.int .i64 0) (.int .i64 0) (.int .i64 0) (.int .i64 0) (.int .i64 0) (.int .i64 0) (.int .i64 0)
    simp only [zD] at HE
    generalize (((((((w1.setCell ⟨g + 2, 0, none⟩ (.int .i64 0)).setCell ⟨g + 2, 1, none⟩ (.int .i64 0)).setCell ⟨g + 2, 2, none⟩ (.int .i64 0)).setCell ⟨g + 2, 3, none⟩ (.int .i64 0)).setCell ⟨g + 2, 4, none⟩ (.int .i64 0)).setCell ⟨g + 2, 5, none⟩ (.int .i64 0)).setCell ⟨g + 2, 6, none⟩ (.int .i64 0)) = Wf at *
    obtain ⟨y0, y1, y2, y3, y4, y5, y6⟩ := at7_open HE
    exact bodyPost_ret (v := .tuple #[dv zD, .int .i64 1]) (by simp [results, Tryd.results41, go_sem, y0, y1, y2, y3, y4, y5, y6, dv, zD]) rfl ⟨rfl, HB3⟩
  | true =>
    cases gb : goodD b with
    | false =>
      have HV : Hid (mulD a b = (zD, 1)) := Lib.hid (by rw [mulD, ga, gb]; rfl)
      have GA := Lib.hid (dgood_at a true ga)
      have GB := Lib.hid (dgood_at b false gb)
      clear ga gb
      unfold dv
      go_enter Tryd.func41, Tryd.ntmps41
      go_wp2_with fail
      rw [HS.out]
      refine (GA.out _).mono ?_
      rintro e w1 ⟨rfl, hb1⟩
      rw [s3] at hb1
      obtain ⟨y0, y1, y2, y3, y4, y5, y6⟩ := at7_open (at7_below HB.out hb1 (by omega))
      have HB1 := Lib.hid hb1
      have hz1 : g + 3 ≤ w1.heap.size := by have := hb1.size; omega
      clear hb1
      go_wp2_with fail
      refine (GB.out _).mono ?_
      rintro e w2 ⟨rfl, hb2⟩
      have hb1 := HB1.out.trans (hb2.mono hz1)
      clear HB1 hb2 hz1 y0 y1 y2 y3 y4 y5 y6
      obtain ⟨r0, r1, r2, r3, r4, r5, r6⟩ := at7_open (at7_below HR.out hb1 (by omega))
      have fr : ∀ j, w2.frozen? ⟨g + 2, j, none⟩ = false := at7f_below FR.out hb1 (by omega)
      have HR2 := Lib.hid (at7_below HR.out hb1 (by omega))
      have HB2 := Lib.hid (HW.out.trans (hb1.mono (by omega)))
      clear hb1
      go_wp2_with fail
      rw [HV.out]
      have HE := at7_set HR2.out zD
      have HB3 := below_set7 (hg ▸ HB2.out) (g + 2) (by omega) (.int .i64 0) (.int .i64 0) (.int .i64 0) (.int .i64 0) (.int .i64 0) (.int .i64 0) (.int .i64 0)
      simp only [zD] at HE
      generalize (((((((w2.setCell ⟨g + 2, 0, none⟩ (.int .i64 0)).setCell ⟨g + 2, 1, none⟩ (.int .i64 0)).setCell ⟨g + 2, 2, none⟩ (.int .i64 0)).setCell ⟨g + 2, 3, none⟩ (.int .i64 0)).setCell ⟨g + 2, 4, none⟩ (.int .i64 0)).setCell ⟨g + 2, 5, none⟩ (.int .i64 0)).setCell ⟨g + 2, 6, none⟩ (.int .i64 0)) = Wf at *
      obtain ⟨y0, y1, y2, y3, y4, y5, y6⟩ := at7_open HE
      exact bodyPost_ret (v := .tuple #[dv zD, .int .i64 1]) (by simp [results, Tryd.results41, go_sem, y0, y1, y2, y3, y4, y5, y6, dv, zD]) rfl ⟨rfl, HB3⟩
    | true =>
      have HV : Hid (mulD a b = toldD (addD a b)) := Lib.hid (by rw [mulD, ga, gb]; rfl)
      have GA := Lib.hid (dgood_at a true ga)
      have GB := Lib.hid (dgood_at b true gb)
      have HA7 := Lib.hid (fun k hk => goodD_at ga k hk)
      have HB7 := Lib.hid (fun k hk => goodD_at gb k hk)
      obtain ⟨⟨rd, re⟩, hr⟩ : ∃ r, toldD (addD a b) = r := ⟨_, rfl⟩
      have GT := Lib.hid (dtold_at (addD a b) (rd, re) hr)
      rw [hr] at HV
      clear ga gb hr
      unfold dv
      go_enter Tryd.func41, Tryd.ntmps41
      go_wp2_with fail
      rw [HS.out]
      refine (GA.out _).mono ?_
      rintro e w1 ⟨rfl, hb1⟩
      rw [s3] at hb1
      obtain ⟨y0, y1, y2, y3, y4, y5, y6⟩ := at7_open (at7_below HB.out hb1 (by omega))
      have HB1 := Lib.hid hb1
      have hz1 : g + 3 ≤ w1.heap.size := by have := hb1.size; omega
      clear hb1
      go_wp2_with fail
      refine (GB.out _).mono ?_
      rintro e w2 ⟨rfl, hb2⟩
      have hb1 := HB1.out.trans (hb2.mono hz1)
      have hz2 : g + 3 ≤ w2.heap.size := by have := hb1.size; omega
      have HA2 := Lib.hid (at7_below HA.out hb1 (by omega))
      have HB2 := Lib.hid (at7_below HB.out hb1 (by omega))
      have HR2 := Lib.hid (at7_below HR.out hb1 (by omega))
      have FA2 := Lib.hid (at7f_below FA.out hb1 (by omega))
      have FR2 := Lib.hid (at7f_below FR.out hb1 (by omega))
      have HW2 := Lib.hid (HW.out.trans (hb1.mono (by omega)))
      clear HB1 hb1 hb2 hz1 y0 y1 y2 y3 y4 y5 y6 HA HB HR FA FR HW HS GA GB
      go_wp2_with fail
      go_loopw [16] (fun i wr => ∃ k : Nat, i = .int .i64 k ∧ k ≤ 7 ∧ Hid (at7 wr g (mixD a (addD a b) k)) ∧ Hid (at7 wr (g + 1) b) ∧ Hid (at7 wr (g + 2) zD) ∧ Hid (at7f wr g) ∧ Hid (at7f wr (g + 2)) ∧ Hid (Below g w wr) ∧ g + 3 ≤ wr.heap.size) (fun i _ => 7 - (intOf i).toNat)
      case atStart => exact ⟨0, rfl, Nat.zero_le _, Lib.hid (by rw [mix_zero]; exact HA2.out), HB2, HR2, FA2, FR2, HW2, hz2⟩
      case round =>
        obtain ⟨k, rfl, hk, KA, KB, KR, KF, KG, KW, hz⟩ := hrel
        by_cases hlt : k < 7
        · have ca : wr.cell? ⟨g, k, none⟩ = some (.int .i64 (a k)) := by rw [KA.out k hlt, mix_here]
          have cb : wr.cell? ⟨g + 1, k, none⟩ = some (.int .i64 (b k)) := KB.out k hlt
          have cf : wr.frozen? ⟨g, k, none⟩ = false := KF.out k
          obtain ⟨ha1, ha2⟩ := HA7.out k hlt
          obtain ⟨hb1, hb2⟩ := HB7.out k hlt
          have hsum : IntKind.i64.wrap (a k + b k) = addD a b k := by rw [IntKind.wrap_i64, addD]; omega
          have hsum2 : a k + b k = addD a b k := rfl
          go_wp2_with fail
          go_region
          go_wp2_with fail
          go_roundw
          case rel => exact ⟨k + 1, by go_num, by omega, Lib.hid (at7_mix (w := wr.drew) KA.out hlt), Lib.hid (at7_other (w := wr.drew) KB.out ⟨g, k, none⟩ (by simp) _), Lib.hid (at7_other (w := wr.drew) KR.out ⟨g, k, none⟩ (by simp) _), Lib.hid (fun j => by simpa using KF.out j), Lib.hid (fun j => by simpa using KG.out j), Lib.hid (KW.out.setCell (show g ≤ g from Nat.le_refl g) _).drew, by simpa using hz⟩
          case measure => simp [intOf]; omega
        · obtain rfl : k = 7 := by omega
          have hE := at7_congr KA.out (mix_seven a (addD a b))
          obtain ⟨x0, x1, x2, x3, x4, x5, x6⟩ := at7_open hE
          clear hE KA KB KF hk hlt
          go_wp2_with fail
          refine (GT.out _).mono ?_
          rintro e w3 ⟨rfl, hb3⟩
          have HR3 := Lib.hid (at7_below KR.out hb3 (by omega))
          have fr : ∀ j, w3.frozen? ⟨g + 2, j, none⟩ = false := at7f_below KG.out hb3 (by omega)
          have HW3 := Lib.hid (KW.out.trans (hb3.mono (by omega)))
          obtain ⟨r0, r1, r2, r3, r4, r5, r6⟩ := at7_open HR3.out
          clear hb3 x0 x1 x2 x3 x4 x5 x6 GT KR KG KW HA2 HB2 HR2 FA2 FR2 HW2
          simp only [dv]
          go_wp2_with fail
          rw [HV.out]
          have HE := at7_set HR3.out rd
          have HB3 := below_set7 (hg ▸ HW3.out) (g + 2) (by omega) (.int .i64 (rd 0)) (.int .i64 (rd 1)) (.int .i64 (rd 2)) (.int .i64 (rd 3)) (.int .i64 (rd 4)) (.int .i64 (rd 5)) (.int .i64 (rd 6))
          generalize (((((((w3.setCell ⟨g + 2, 0, none⟩ (.int .i64 (rd 0))).setCell ⟨g + 2, 1, none⟩ (.int .i64 (rd 1))).setCell ⟨g + 2, 2, none⟩ (.int .i64 (rd 2))).setCell ⟨g + 2, 3, none⟩ (.int .i64 (rd 3))).setCell ⟨g + 2, 4, none⟩ (.int .i64 (rd 4))).setCell ⟨g + 2, 5, none⟩ (.int .i64 (rd 5))).setCell ⟨g + 2, 6, none⟩ (.int .i64 (rd 6))) = Wf at *
          obtain ⟨y0, y1, y2, y3, y4, y5, y6⟩ := at7_open HE
          exact bodyPost_ret (v := .tuple #[dv rd, .int .i64 re]) (by simp [results, Tryd.results41, go_sem, y0, y1, y2, y3, y4, y5, y6, dv]) rfl ⟨rfl, HB3⟩
def subD (a b : Nat → Int) : Nat → Int := fun i => a i - b i
def divD (a b : Nat → Int) : (Nat → Int) × Int := if goodD a = true then (if goodD b = true then toldD (subD a b) else (zD, 1)) else (zD, 1)
set_option maxRecDepth 20000 in
set_option maxHeartbeats 2000000 in
theorem ddiv_any (a b : Nat → Int) (w : World) :
    Calls Tryd.prog 42 #[dv a, dv b] w fun e w' => e = .returned (.tuple #[dv (divD a b).1, .int .i64 (divD a b).2]) ∧ Below w.heap.size w w' := by
  obtain ⟨W, hW⟩ : ∃ W, ((w.alloc (.cells #[.int .i64 (a 0), .int .i64 (a 1), .int .i64 (a 2), .int .i64 (a 3), .int .i64 (a 4), .int .i64 (a 5), .int .i64 (a 6)] 65)).alloc (.cells #[.int .i64 (b 0), .int .i64 (b 1), .int .i64 (b 2), .int .i64 (b 3), .int .i64 (b 4), .int .i64 (b 5), .int .i64 (b 6)] 65)).alloc (.cells #[.int .i64 0, .int .i64 0, .int .i64 0, .int .i64 0, .int .i64 0, .int .i64 0, .int .i64 0] 65) = W := ⟨_, rfl⟩
  obtain ⟨g, hg⟩ : ∃ g, w.heap.size = g := ⟨_, rfl⟩
  have s1 : (w.alloc (.cells #[.int .i64 (a 0), .int .i64 (a 1), .int .i64 (a 2), .int .i64 (a 3), .int .i64 (a 4), .int .i64 (a 5), .int .i64 (a 6)] 65)).heap.size = g + 1 := by rw [← hg]; simp
  have s2 : ((w.alloc (.cells #[.int .i64 (a 0), .int .i64 (a 1), .int .i64 (a 2), .int .i64 (a 3), .int .i64 (a 4), .int .i64 (a 5), .int .i64 (a 6)] 65)).alloc (.cells #[.int .i64 (b 0), .int .i64 (b 1), .int .i64 (b 2), .int .i64 (b 3), .int .i64 (b 4), .int .i64 (b 5), .int .i64 (b 6)] 65)).heap.size = g + 2 := by rw [← hg]; simp
  have s3 : W.heap.size = g + 3 := by rw [← hW, ← hg]; simp
  have hBW : Below g w W := by rw [← hW, ← hg]; exact bl_alloc (bl_alloc (bl_alloc (Below.refl _ _) _) _) _
  have hb2 := alloc_keep (w.alloc (.cells #[.int .i64 (a 0), .int .i64 (a 1), .int .i64 (a 2), .int .i64 (a 3), .int .i64 (a 4), .int .i64 (a 5), .int .i64 (a 6)] 65)) (.cells #[.int .i64 (b 0), .int .i64 (b 1), .int .i64 (b 2), .int .i64 (b 3), .int .i64 (b 4), .int .i64 (b 5), .int .i64 (b 6)] 65)
  have hb3 := alloc_keep ((w.alloc (.cells #[.int .i64 (a 0), .int .i64 (a 1), .int .i64 (a 2), .int .i64 (a 3), .int .i64 (a 4), .int .i64 (a 5), .int .i64 (a 6)] 65)).alloc (.cells #[.int .i64 (b 0), .int .i64 (b 1), .int .i64 (b 2), .int .i64 (b 3), .int .i64 (b 4), .int .i64 (b 5), .int .i64 (b 6)] 65)) (.cells #[.int .i64 0, .int .i64 0, .int .i64 0, .int .i64 0, .int .i64 0, .int .i64 0, .int .i64 0] 65)
  rw [s1] at hb2
  rw [s2, hW] at hb3
  have hA : at7 W g a := at7_below (at7_below (hg ▸ at7_alloc w a 65) hb2 (by omega)) hb3 (by omega)
  have hB : at7 W (g + 1) b := at7_below (s1 ▸ at7_alloc (w.alloc (.cells #[.int .i64 (a 0), .int .i64 (a 1), .int .i64 (a 2), .int .i64 (a 3), .int .i64 (a 4), .int .i64 (a 5), .int .i64 (a 6)] 65)) b 65) hb3 (by omega)
  have hR : at7 W (g + 2) zD := by rw [← hW, ← s2]; exact at7_zero _ _
  have fA : at7f W g := at7f_below (at7f_below (fun j => by rw [← hg]; simp : at7f (w.alloc (.cells #[.int .i64 (a 0), .int .i64 (a 1), .int .i64 (a 2), .int .i64 (a 3), .int .i64 (a 4), .int .i64 (a 5), .int .i64 (a 6)] 65)) g) hb2 (by omega)) hb3 (by omega)
  have fR : at7f W (g + 2) := fun j => by rw [← hW, ← s2]; apply World.frozen?_alloc_new
  have HA := Lib.hid hA
  have HB := Lib.hid hB
  have HR := Lib.hid hR
  have FA := Lib.hid fA
  have FR := Lib.hid fR
  have HW := Lib.hid hBW
  have HS := Lib.hid hW
  clear hA hB hR fA fR hBW hb2 hb3 s1 s2 hW
  cases ga : goodD a with
  | false =>
    have HV : Hid (divD a b = (zD, 1)) := Lib.hid (by rw [divD, ga]; rfl)
    have GA := Lib.hid (dgood_at a false ga)
    clear ga
    unfold dv
    go_enter Tryd.func42, Tryd.ntmps42
    go_wp2_with fail
    rw [HS.out]
    refine (GA.out _).mono ?_
    rintro e w1 ⟨rfl, hb1⟩
    rw [s3] at hb1
    obtain ⟨r0, r1, r2, r3, r4, r5, r6⟩ := at7_open (at7_below HR.out hb1 (by omega))
    have fr : ∀ j, w1.frozen? ⟨g + 2, j, none⟩ = false := at7f_below FR.out hb1 (by omega)
    have HR2 := Lib.hid (at7_below HR.out hb1 (by omega))
    have HB2 := Lib.hid (HW.out.trans (hb1.mono (by omega)))
    clear hb1
    go_wp2_with fail
    rw [HV.out]
    have HE := at7_set HR2.out zD
    have HB3 := below_set7 (hg ▸ HB2.out) (g + 2) (by omega) (.int .i64 0) (.int .i64 0) (.int .i64 0) (.int .i64 0) (.int .i64 0) (.int .i64 0) (.int .i64 0)
    simp only [zD] at HE
    generalize (((((((w1.setCell ⟨g + 2, 0, none⟩ (.int .i64 0)).setCell ⟨g + 2, 1, none⟩ (.int .i64 0)).setCell ⟨g + 2, 2, none⟩ (.int .i64 0)).setCell ⟨g + 2, 3, none⟩ (.int .i64 0)).setCell ⟨g + 2, 4, none⟩ (.int .i64 0)).setCell ⟨g + 2, 5, none⟩ (.int .i64 0)).setCell ⟨g + 2, 6, none⟩ (.int .i64 0)) = Wf at *
    obtain ⟨y0, y1, y2, y3, y4, y5, y6⟩ := at7_open HE
    exact bodyPost_ret (v := .tuple #[dv zD, .int .i64 1]) (by simp [results, Tryd.results42, go_sem, y0, y1, y2, y3, y4, y5, y6, dv, zD]) rfl ⟨rfl, HB3⟩
  | true =>
    cases gb : goodD b with
    | false =>
      have HV : Hid (divD a b = (zD, 1)) := Lib.hid (by rw [divD, ga, gb]; rfl)
      have GA := Lib.hid (dgood_at a true ga)
      have GB := Lib.hid (dgood_at b false gb)
      clear ga gb
      unfold dv
      go_enter Tryd.func42, Tryd.ntmps42
      go_wp2_with fail
      rw [HS.out]
      refine (GA.out _).mono ?_
      rintro e w1 ⟨rfl, hb1⟩
      rw [s3] at hb1
      obtain ⟨y0, y1, y2, y3, y4, y5, y6⟩ := at7_open (at7_below HB.out hb1 (by omega))
      have HB1 := Lib.hid hb1
      have hz1 : g + 3 ≤ w1.heap.size := by have := hb1.size; omega
      clear hb1
      go_wp2_with fail
      refine (GB.out _).mono ?_
      rintro e w2 ⟨rfl, hb2⟩
      have hb1 := HB1.out.trans (hb2.mono hz1)
      clear HB1 hb2 hz1 y0 y1 y2 y3 y4 y5 y6
      obtain ⟨r0, r1, r2, r3, r4, r5, r6⟩ := at7_open (at7_below HR.out hb1 (by omega))
      have fr : ∀ j, w2.frozen? ⟨g + 2, j, none⟩ = false := at7f_below FR.out hb1 (by omega)
      have HR2 := Lib.hid (at7_below HR.out hb1 (by omega))
      have HB2 := Lib.hid (HW.out.trans (hb1.mono (by omega)))
      clear hb1
      go_wp2_with fail
      rw [HV.out]
      have HE := at7_set HR2.out zD
      have HB3 := below_set7 (hg ▸ HB2.out) (g + 2) (by omega) (.int .i64 0) (.int .i64 0) (.int .i64 0) (.int .i64 0) (.int .i64 0) (.int .i64 0) (.int .i64 0)
      simp only [zD] at HE
      generalize (((((((w2.setCell ⟨g + 2, 0, none⟩ (.int .i64 0)).setCell ⟨g + 2, 1, none⟩ (.int .i64 0)).setCell ⟨g + 2, 2, none⟩ (.int .i64 0)).setCell ⟨g + 2, 3, none⟩ (.int .i64 0)).setCell ⟨g + 2, 4, none⟩ (.int .i64 0)).setCell ⟨g + 2, 5, none⟩ (.int .i64 0)).setCell ⟨g + 2, 6, none⟩ (.int .i64 0)) = Wf at *
      obtain ⟨y0, y1, y2, y3, y4, y5, y6⟩ := at7_open HE
      exact bodyPost_ret (v := .tuple #[dv zD, .int .i64 1]) (by simp [results, Tryd.results42, go_sem, y0, y1, y2, y3, y4, y5, y6, dv, zD]) rfl ⟨rfl, HB3⟩
    | true =>
      have HV : Hid (divD a b = toldD (subD a b)) := Lib.hid (by rw [divD, ga, gb]; rfl)
      have GA := Lib.hid (dgood_at a true ga)
      have GB := Lib.hid (dgood_at b true gb)
      have HA7 := Lib.hid (fun k hk => goodD_at ga k hk)
      have HB7 := Lib.hid (fun k hk => goodD_at gb k hk)
      obtain ⟨⟨rd, re⟩, hr⟩ : ∃ r, toldD (subD a b) = r := ⟨_, rfl⟩
      have GT := Lib.hid (dtold_at (subD a b) (rd, re) hr)
      rw [hr] at HV
      clear ga gb hr
      unfold dv
      go_enter Tryd.func42, Tryd.ntmps42
      go_wp2_with fail
      rw [HS.out]
      refine (GA.out _).mono ?_
      rintro e w1 ⟨rfl, hb1⟩
      rw [s3] at hb1
      obtain ⟨y0, y1, y2, y3, y4, y5, y6⟩ := at7_open (at7_below HB.out hb1 (by omega))
      have HB1 := Lib.hid hb1
      have hz1 : g + 3 ≤ w1.heap.size := by have := hb1.size; omega
      clear hb1
      go_wp2_with fail
      refine (GB.out _).mono ?_
      rintro e w2 ⟨rfl, hb2⟩
      have hb1 := HB1.out.trans (hb2.mono hz1)
      have hz2 : g + 3 ≤ w2.heap.size := by have := hb1.size; omega
      have HA2 := Lib.hid (at7_below HA.out hb1 (by omega))
      have HB2 := Lib.hid (at7_below HB.out hb1 (by omega))
      have HR2 := Lib.hid (at7_below HR.out hb1 (by omega))
      have FA2 := Lib.hid (at7f_below FA.out hb1 (by omega))
      have FR2 := Lib.hid (at7f_below FR.out hb1 (by omega))
      have HW2 := Lib.hid (HW.out.trans (hb1.mono (by omega)))
      clear HB1 hb1 hb2 hz1 y0 y1 y2 y3 y4 y5 y6 HA HB HR FA FR HW HS GA GB
      go_wp2_with fail
      go_loopw [16] (fun i wr => ∃ k : Nat, i = .int .i64 k ∧ k ≤ 7 ∧ Hid (at7 wr g (mixD a (subD a b) k)) ∧ Hid (at7 wr (g + 1) b) ∧ Hid (at7 wr (g + 2) zD) ∧ Hid (at7f wr g) ∧ Hid (at7f wr (g + 2)) ∧ Hid (Below g w wr) ∧ g + 3 ≤ wr.heap.size) (fun i _ => 7 - (intOf i).toNat)
      case atStart => exact ⟨0, rfl, Nat.zero_le _, Lib.hid (by rw [mix_zero]; exact HA2.out), HB2, HR2, FA2, FR2, HW2, hz2⟩
      case round =>
        obtain ⟨k, rfl, hk, KA, KB, KR, KF, KG, KW, hz⟩ := hrel
        by_cases hlt : k < 7
        · have ca : wr.cell? ⟨g, k, none⟩ = some (.int .i64 (a k)) := by rw [KA.out k hlt, mix_here]
          have cb : wr.cell? ⟨g + 1, k, none⟩ = some (.int .i64 (b k)) := KB.out k hlt
          have cf : wr.frozen? ⟨g, k, none⟩ = false := KF.out k
          obtain ⟨ha1, ha2⟩ := HA7.out k hlt
          obtain ⟨hb1, hb2⟩ := HB7.out k hlt
          have hsum : IntKind.i64.wrap (a k - b k) = subD a b k := by rw [IntKind.wrap_i64, subD]; omega
          have hsum2 : a k - b k = subD a b k := rfl
          go_wp2_with fail
          go_region
          go_wp2_with fail
          go_roundw
          case rel => exact ⟨k + 1, by go_num, by omega, Lib.hid (at7_mix (w := wr.drew) KA.out hlt), Lib.hid (at7_other (w := wr.drew) KB.out ⟨g, k, none⟩ (by simp) _), Lib.hid (at7_other (w := wr.drew) KR.out ⟨g, k, none⟩ (by simp) _), Lib.hid (fun j => by simpa using KF.out j), Lib.hid (fun j => by simpa using KG.out j), Lib.hid (KW.out.setCell (show g ≤ g from Nat.le_refl g) _).drew, by simpa using hz⟩
          case measure => simp [intOf]; omega
        · obtain rfl : k = 7 := by omega
          have hE := at7_congr KA.out (mix_seven a (subD a b))
          obtain ⟨x0, x1, x2, x3, x4, x5, x6⟩ := at7_open hE
          clear hE KA KB KF hk hlt
          go_wp2_with fail
          refine (GT.out _).mono ?_
          rintro e w3 ⟨rfl, hb3⟩
          have HR3 := Lib.hid (at7_below KR.out hb3 (by omega))
          have fr : ∀ j, w3.frozen? ⟨g + 2, j, none⟩ = false := at7f_below KG.out hb3 (by omega)
          have HW3 := Lib.hid (KW.out.trans (hb3.mono (by omega)))
          obtain ⟨r0, r1, r2, r3, r4, r5, r6⟩ := at7_open HR3.out
          clear hb3 x0 x1 x2 x3 x4 x5 x6 GT KR KG KW HA2 HB2 HR2 FA2 FR2 HW2
          simp only [dv]
          go_wp2_with fail
          rw [HV.out]
          have HE := at7_set HR3.out rd
          have HB3 := below_set7 (hg ▸ HW3.out) (g + 2) (by omega) (.int .i64 (rd 0)) (.int .i64 (rd 1)) (.int .i64 (rd 2)) (.int .i64 (rd 3)) (.int .i64 (rd 4)) (.int .i64 (rd 5)) (.int .i64 (rd 6))
          generalize (((((((w3.setCell ⟨g + 2, 0, none⟩ (.int .i64 (rd 0))).setCell ⟨g + 2, 1, none⟩ (.int .i64 (rd 1))).setCell ⟨g + 2, 2, none⟩ (.int .i64 (rd 2))).setCell ⟨g + 2, 3, none⟩ (.int .i64 (rd 3))).setCell ⟨g + 2, 4, none⟩ (.int .i64 (rd 4))).setCell ⟨g + 2, 5, none⟩ (.int .i64 (rd 5))).setCell ⟨g + 2, 6, none⟩ (.int .i64 (rd 6))) = Wf at *
          obtain ⟨y0, y1, y2, y3, y4, y5, y6⟩ := at7_open HE
          exact bodyPost_ret (v := .tuple #[dv rd, .int .i64 re]) (by simp [results, Tryd.results42, go_sem, y0, y1, y2, y3, y4, y5, y6, dv]) rfl ⟨rfl, HB3⟩
end Go.Proofs.YtcajdkncohcaeaaDoor
