import Derived.Test.YtcajdkncohcaeaaDoorDmA
namespace Go.Proofs.YtcajdkncohcaeaaDoor
set_option linter.unusedVariables false
set_option linter.unusedSimpArgs false
open Go.RowKit Go.Proofs.YtcajdkncohcaeaaDoorW.PrintWords

def zD : Nat → Int := fun _ => 0
/-- seven cells of a block -/
def at7 (w : World) (b : Nat) (a : Nat → Int) : Prop := ∀ j, j < 7 → w.cell? ⟨b, j, none⟩ = some (.int .i64 (a j))
theorem at7_alloc (w : World) (a : Nat → Int) (t : Nat) : at7 (w.alloc (.cells #[.int .i64 (a 0), .int .i64 (a 1), .int .i64 (a 2), .int .i64 (a 3), .int .i64 (a 4), .int .i64 (a 5), .int .i64 (a 6)] t)) w.heap.size a := by
  intro j hj
  rcases below7 hj with h | h | h | h | h | h | h <;> subst h <;> simp
theorem at7_zero (w : World) (t : Nat) : at7 (w.alloc (.cells #[.int .i64 0, .int .i64 0, .int .i64 0, .int .i64 0, .int .i64 0, .int .i64 0, .int .i64 0] t)) w.heap.size zD := at7_alloc w zD t
theorem at7_below {w w' : World} {b n : Nat} {a : Nat → Int} (h : at7 w b a) (hB : Below n w w') (hb : b < n) : at7 w' b a := fun j hj => (hB.cell (p := ⟨b, j, none⟩) hb).trans (h j hj)
theorem at7_other {w : World} {b : Nat} {a : Nat → Int} (h : at7 w b a) (p : Addr) (hp : p.block ≠ b) (u : Value) : at7 (w.setCell p u) b a := fun j hj => (World.cell?_setCell_other _ _ _ _ (fun e => hp (by rw [e]))).trans (h j hj)
theorem at7_set {w : World} {b : Nat} {x : Nat → Int} (h : at7 w b x) (a : Nat → Int) : at7 (((((((w.setCell ⟨b, 0, none⟩ (.int .i64 (a 0))).setCell ⟨b, 1, none⟩ (.int .i64 (a 1))).setCell ⟨b, 2, none⟩ (.int .i64 (a 2))).setCell ⟨b, 3, none⟩ (.int .i64 (a 3))).setCell ⟨b, 4, none⟩ (.int .i64 (a 4))).setCell ⟨b, 5, none⟩ (.int .i64 (a 5))).setCell ⟨b, 6, none⟩ (.int .i64 (a 6))) b a := by
  intro j hj
  have := World.cell?_setCells_in b [.int .i64 (a 0), .int .i64 (a 1), .int .i64 (a 2), .int .i64 (a 3), .int .i64 (a 4), .int .i64 (a 5), .int .i64 (a 6)] 0 w (fun j hj => by rw [Nat.zero_add, h j (by simpa using hj)]; rfl) j (by simpa using hj)
  simp only [World.setCells, Nat.zero_add, Nat.reduceAdd] at this
  rcases below7 hj with h | h | h | h | h | h | h <;> subst h <;> exact this
theorem at7_open {w : World} {b : Nat} {a : Nat → Int} (h : at7 w b a) : w.cell? ⟨b, 0, none⟩ = some (.int .i64 (a 0)) ∧ w.cell? ⟨b, 1, none⟩ = some (.int .i64 (a 1)) ∧ w.cell? ⟨b, 2, none⟩ = some (.int .i64 (a 2)) ∧ w.cell? ⟨b, 3, none⟩ = some (.int .i64 (a 3)) ∧ w.cell? ⟨b, 4, none⟩ = some (.int .i64 (a 4)) ∧ w.cell? ⟨b, 5, none⟩ = some (.int .i64 (a 5)) ∧ w.cell? ⟨b, 6, none⟩ = some (.int .i64 (a 6)) :=
  ⟨h 0 (by decide), h 1 (by decide), h 2 (by decide), h 3 (by decide), h 4 (by decide), h 5 (by decide), h 6 (by decide)⟩
theorem below_set7 {w W : World} (h : Below w.heap.size w W) (b : Nat) (hb : w.heap.size ≤ b) (v0 v1 v2 v3 v4 v5 v6 : Value) : Below w.heap.size w (((((((W.setCell ⟨b, 0, none⟩ (v0)).setCell ⟨b, 1, none⟩ (v1)).setCell ⟨b, 2, none⟩ (v2)).setCell ⟨b, 3, none⟩ (v3)).setCell ⟨b, 4, none⟩ (v4)).setCell ⟨b, 5, none⟩ (v5)).setCell ⟨b, 6, none⟩ (v6)) := by
  exact bl_set (bl_set (bl_set (bl_set (bl_set (bl_set (bl_set h (p := ⟨b, 0, none⟩) hb _) (p := ⟨b, 1, none⟩) hb _) (p := ⟨b, 2, none⟩) hb _) (p := ⟨b, 3, none⟩) hb _) (p := ⟨b, 4, none⟩) hb _) (p := ⟨b, 5, none⟩) hb _) (p := ⟨b, 6, none⟩) hb _

/-- a dimension, if it may be -/
def toldD (a : Nat → Int) : (Nat → Int) × Int := if goodD a = true then (a, 0) else (zD, 2)
theorem dgood_at (a : Nat → Int) (b : Bool) (h : goodD a = b) (w : World) :
    Calls Tryd.prog 46 #[.agg #[.int .i64 (a 0), .int .i64 (a 1), .int .i64 (a 2), .int .i64 (a 3), .int .i64 (a 4), .int .i64 (a 5), .int .i64 (a 6)]] w fun e w' => e = .returned (.bool b) ∧ Below w.heap.size w w' := by
  have := dgood_any a w
  rwa [h] at this

set_option maxRecDepth 20000 in
set_option maxHeartbeats 2000000 in
theorem dtold_any (a : Nat → Int) (w : World) :
    Calls Tryd.prog 65 #[dv a] w fun e w' => e = .returned (.tuple #[dv (toldD a).1, .int .i64 (toldD a).2]) ∧ Below w.heap.size w w' := by
  cases hg : goodD a with
  | true =>
    have HV : Hid (toldD a = (a, 0)) := Lib.hid (by rw [toldD, hg]; rfl)
    have GD := Lib.hid (dgood_at a true hg)
    clear hg
    unfold dv
    go_enter Tryd.func65, Tryd.ntmps65
    go_wp2_with fail
    refine (GD.out _).mono ?_
    rintro e w1 ⟨rfl, hb1⟩
    have hz : w.heap.size + 2 ≤ w1.heap.size := by have := hb1.size; simpa using this
    obtain ⟨hc, hf⟩ := bcell hb1
    have hR := at7_below (at7_zero (w.alloc (.cells #[.int .i64 (a 0), .int .i64 (a 1), .int .i64 (a 2), .int .i64 (a 3), .int .i64 (a 4), .int .i64 (a 5), .int .i64 (a 6)] 65)) 65) hb1 (by simp)
    have hB := at7_below (at7_below (at7_alloc w a 65) (alloc_keep _ (.cells #[.int .i64 0, .int .i64 0, .int .i64 0, .int .i64 0, .int .i64 0, .int .i64 0, .int .i64 0] 65)) (by simp)) hb1 (by simp; omega)
    have hF : ∀ j, w1.frozen? ⟨(w.alloc (.cells #[.int .i64 (a 0), .int .i64 (a 1), .int .i64 (a 2), .int .i64 (a 3), .int .i64 (a 4), .int .i64 (a 5), .int .i64 (a 6)] 65)).heap.size, j, none⟩ = false := fun j => (hf _ _ (by simp)).trans (by simp)
    have hsz : (w.alloc (.cells #[.int .i64 (a 0), .int .i64 (a 1), .int .i64 (a 2), .int .i64 (a 3), .int .i64 (a 4), .int .i64 (a 5), .int .i64 (a 6)] 65)).heap.size = w.heap.size + 1 := by simp
    rw [hsz] at hR hF
    obtain ⟨x0, x1, x2, x3, x4, x5, x6⟩ := at7_open hB
    obtain ⟨r0, r1, r2, r3, r4, r5, r6⟩ := at7_open hR
    have HR := Lib.hid hR
    have HB := Lib.hid (bl_then (bl_alloc (bl_alloc (Below.refl _ _) _) _) hb1)
    clear hb1 hc hf hR hB hsz
    go_wp2_with fail
    rw [HV.out]
    have HE := at7_set HR.out a
    have HB2 := below_set7 HB.out (w.heap.size + 1) (by omega) (.int .i64 (a 0)) (.int .i64 (a 1)) (.int .i64 (a 2)) (.int .i64 (a 3)) (.int .i64 (a 4)) (.int .i64 (a 5)) (.int .i64 (a 6))
    generalize (((((((w1.setCell ⟨w.heap.size + 1, 0, none⟩ (.int .i64 (a 0))).setCell ⟨w.heap.size + 1, 1, none⟩ (.int .i64 (a 1))).setCell ⟨w.heap.size + 1, 2, none⟩ (.int .i64 (a 2))).setCell ⟨w.heap.size + 1, 3, none⟩ (.int .i64 (a 3))).setCell ⟨w.heap.size + 1, 4, none⟩ (.int .i64 (a 4))).setCell ⟨w.heap.size + 1, 5, none⟩ (.int .i64 (a 5))).setCell ⟨w.heap.size + 1, 6, none⟩ (.int .i64 (a 6))) = W at *
    obtain ⟨y0, y1, y2, y3, y4, y5, y6⟩ := at7_open HE
    exact bodyPost_ret (v := .tuple #[dv a, .int .i64 0]) (by simp [results, Tryd.results65, go_sem, y0, y1, y2, y3, y4, y5, y6, dv, zD]) rfl ⟨rfl, HB2⟩
  | false =>
    have HV : Hid (toldD a = (zD, 2)) := Lib.hid (by rw [toldD, hg]; rfl)
    have GD := Lib.hid (dgood_at a false hg)
    clear hg
    unfold dv
    go_enter Tryd.func65, Tryd.ntmps65
    go_wp2_with fail
    refine (GD.out _).mono ?_
    rintro e w1 ⟨rfl, hb1⟩
    have hz : w.heap.size + 2 ≤ w1.heap.size := by have := hb1.size; simpa using this
    obtain ⟨hc, hf⟩ := bcell hb1
    have hR := at7_below (at7_zero (w.alloc (.cells #[.int .i64 (a 0), .int .i64 (a 1), .int .i64 (a 2), .int .i64 (a 3), .int .i64 (a 4), .int .i64 (a 5), .int .i64 (a 6)] 65)) 65) hb1 (by simp)
    have hB := at7_below (at7_below (at7_alloc w a 65) (alloc_keep _ (.cells #[.int .i64 0, .int .i64 0, .int .i64 0, .int .i64 0, .int .i64 0, .int .i64 0, .int .i64 0] 65)) (by simp)) hb1 (by simp; omega)
    have hF : ∀ j, w1.frozen? ⟨(w.alloc (.cells #[.int .i64 (a 0), .int .i64 (a 1), .int .i64 (a 2), .int .i64 (a 3), .int .i64 (a 4), .int .i64 (a 5), .int .i64 (a 6)] 65)).heap.size, j, none⟩ = false := fun j => (hf _ _ (by simp)).trans (by simp)
    have hsz : (w.alloc (.cells #[.int .i64 (a 0), .int .i64 (a 1), .int .i64 (a 2), .int .i64 (a 3), .int .i64 (a 4), .int .i64 (a 5), .int .i64 (a 6)] 65)).heap.size = w.heap.size + 1 := by simp
    rw [hsz] at hR hF
    obtain ⟨x0, x1, x2, x3, x4, x5, x6⟩ := at7_open hB
    obtain ⟨r0, r1, r2, r3, r4, r5, r6⟩ := at7_open hR
    have HR := Lib.hid hR
    have HB := Lib.hid (bl_then (bl_alloc (bl_alloc (Below.refl _ _) _) _) hb1)
    clear hb1 hc hf hR hB hsz
    go_wp2_with fail
    rw [HV.out]
    have HE := at7_set HR.out zD
    have HB2 := below_set7 HB.out (w.heap.size + 1) (by omega) (.int .i64 0) (.int .i64 0) (.int .i64 0) (.int .i64 0) (.int .i64 0) (.int .i64 0) (.int .i64 0)
    simp only [zD] at HE
    generalize (((((((w1.setCell ⟨w.heap.size + 1, 0, none⟩ (.int .i64 0)).setCell ⟨w.heap.size + 1, 1, none⟩ (.int .i64 0)).setCell ⟨w.heap.size + 1, 2, none⟩ (.int .i64 0)).setCell ⟨w.heap.size + 1, 3, none⟩ (.int .i64 0)).setCell ⟨w.heap.size + 1, 4, none⟩ (.int .i64 0)).setCell ⟨w.heap.size + 1, 5, none⟩ (.int .i64 0)).setCell ⟨w.heap.size + 1, 6, none⟩ (.int .i64 0)) = W at *
    obtain ⟨y0, y1, y2, y3, y4, y5, y6⟩ := at7_open HE
    exact bodyPost_ret (v := .tuple #[dv zD, .int .i64 2]) (by simp [results, Tryd.results65, go_sem, y0, y1, y2, y3, y4, y5, y6, dv, zD]) rfl ⟨rfl, HB2⟩
end Go.Proofs.YtcajdkncohcaeaaDoor
