import Derived.Test.YtcajdkncohcaeaaDoorDmH
import Derived.Deep.RegionHeld3
namespace Go.Proofs.YtcajdkncohcaeaaDoor
set_option linter.unusedVariables false
set_option linter.unusedSimpArgs false
open Go.RowKit Go.Proofs.YtcajdkncohcaeaaDoorW.PrintWords

def at8 (w : World) (b : Nat) (a : Nat → Int) : Prop := ∀ j, j < 7 → w.cell? ⟨b, j, none⟩ = some (.int .i8 (a j))
theorem at8_alloc (w : World) (a : Nat → Int) (t : Nat) : at8 (w.alloc (.cells #[.int .i8 (a 0), .int .i8 (a 1), .int .i8 (a 2), .int .i8 (a 3), .int .i8 (a 4), .int .i8 (a 5), .int .i8 (a 6)] t)) w.heap.size a := by
  intro j hj
  rcases below7 hj with h | h | h | h | h | h | h <;> subst h <;> simp
theorem at8_below {w w' : World} {b n : Nat} {a : Nat → Int} (h : at8 w b a) (hB : Below n w w') (hb : b < n) : at8 w' b a := fun j hj => (hB.cell (p := ⟨b, j, none⟩) hb).trans (h j hj)
theorem at8_lt {w : World} {b : Nat} {a : Nat → Int} (h : at8 w b a) : b < w.heap.size := World.block_lt_of_cell? _ _ (h 0 (by decide))
theorem at8_next {w w' : World} {b : Nat} {a : Nat → Int} (h : at8 w b a) (hB : Below w.heap.size w w') : at8 w' b a := at8_below h hB (at8_lt h)
theorem at8_other {w : World} {b : Nat} {a : Nat → Int} (h : at8 w b a) (p : Addr) (hp : p.block ≠ b) (u : Value) : at8 (w.setCell p u) b a := fun j hj => (World.cell?_setCell_other _ _ _ _ (fun e => hp (by rw [e]))).trans (h j hj)
theorem at7f_next {w w' : World} {b : Nat} (h : at7f w b) (hb : b < w.heap.size) (hB : Below w.heap.size w w') : at7f w' b := at7f_below h hB hb
def rem30 (a : Nat → Int) : Nat → Int := fun i => (a i).tmod 30
theorem rem30_le (a : Nat → Int) (i : Nat) : -29 ≤ rem30 a i ∧ rem30 a i ≤ 29 := by
  have h : (rem30 a i).natAbs = (a i).natAbs % 30 := by unfold rem30; rw [Int.natAbs_tmod]; rfl
  have := Nat.mod_lt (a i).natAbs (show 0 < 30 by decide)
  omega
/-- a power of a dimension that is small -/
theorem powD_small (x : Nat → Int) (n : Int) (hx : ∀ j, j < 7 → -29 ≤ x j ∧ x j ≤ 29) (hn : 0 ≤ n ∧ n ≤ 5) : ∃ s, powD x n = (s, 0) ∧ ∀ j, j < 7 → s j = x j * n := by
  have hg : goodD x = true := (goodD_iff _).2 (fun j hj => by have := hx j hj; omega)
  rw [powD, if_pos hg]
  by_cases he : eqD x zD = true
  · refine ⟨x, by rw [if_pos he], fun j hj => ?_⟩
    have := (eqD_iff _ _).1 he j hj
    rw [this]; simp [zD]
  · refine ⟨scD x n, ?_, fun j hj => rfl⟩
    rw [if_neg he, if_pos (by unfold okE; rw [decide_eq_true (by omega), decide_eq_true (by omega)]; rfl), told_good]
    refine (goodD_iff _).2 (fun j hj => ?_)
    have h1 := hx j hj
    have h : (x j * n).natAbs ≤ 29 * 5 := by rw [Int.natAbs_mul]; exact Nat.mul_le_mul (by omega) (by omega)
    show -200 ≤ x j * n ∧ x j * n ≤ 200
    omega
theorem mulD_small (x y : Nat → Int) (hx : ∀ j, j < 7 → -200 ≤ x j ∧ x j ≤ 200) (hy : ∀ j, j < 7 → -200 ≤ y j ∧ y j ≤ 200) (hs : ∀ j, j < 7 → -200 ≤ x j + y j ∧ x j + y j ≤ 200) : mulD x y = (addD x y, 0) := by
  rw [mulD, if_pos ((goodD_iff _).2 hx), if_pos ((goodD_iff _).2 hy), told_good (a := addD x y) ((goodD_iff _).2 hs)]
theorem divD_small (x y : Nat → Int) (hx : ∀ j, j < 7 → -200 ≤ x j ∧ x j ≤ 200) (hy : ∀ j, j < 7 → -200 ≤ y j ∧ y j ≤ 200) (hs : ∀ j, j < 7 → -200 ≤ x j - y j ∧ x j - y j ≤ 200) : divD x y = (subD x y, 0) := by
  rw [divD, if_pos ((goodD_iff _).2 hx), if_pos ((goodD_iff _).2 hy), told_good (a := subD x y) ((goodD_iff _).2 hs)]

set_option maxRecDepth 20000 in
set_option maxHeartbeats 8000000 in
theorem dimGroup_any (a b c : Nat → Int) (w : World) (ha : ∀ j, j < 7 → -128 ≤ a j ∧ a j ≤ 127) (hb : ∀ j, j < 7 → -128 ≤ b j ∧ b j ≤ 127) (hc : ∀ j, j < 7 → -128 ≤ c j ∧ c j ≤ 127) (hG : DimGlob w) :
    Calls Tryd.prog 12 #[.agg #[.int .i8 (a 0), .int .i8 (a 1), .int .i8 (a 2), .int .i8 (a 3), .int .i8 (a 4), .int .i8 (a 5), .int .i8 (a 6)], .agg #[.int .i8 (b 0), .int .i8 (b 1), .int .i8 (b 2), .int .i8 (b 3), .int .i8 (b 4), .int .i8 (b 5), .int .i8 (b 6)], .agg #[.int .i8 (c 0), .int .i8 (c 1), .int .i8 (c 2), .int .i8 (c 3), .int .i8 (c 4), .int .i8 (c 5), .int .i8 (c 6)]] w fun e w' => e = .returned (.bool true) ∧ Below w.heap.size w w' := by
  obtain ⟨x, hx⟩ : ∃ x, rem30 a = x := ⟨_, rfl⟩
  obtain ⟨y, hy⟩ : ∃ y, rem30 b = y := ⟨_, rfl⟩
  obtain ⟨z, hz⟩ : ∃ z, rem30 c = z := ⟨_, rfl⟩
  have bx : ∀ j, j < 7 → -29 ≤ x j ∧ x j ≤ 29 := fun j _ => by rw [← hx]; exact rem30_le a j
  have by' : ∀ j, j < 7 → -29 ≤ y j ∧ y j ≤ 29 := fun j _ => by rw [← hy]; exact rem30_le b j
  have bz : ∀ j, j < 7 → -29 ≤ z j ∧ z j ≤ 29 := fun j _ => by rw [← hz]; exact rem30_le c j
  have HX := Lib.hid (fun k => (congrFun hx k : (a k).tmod 30 = x k))
  have HY := Lib.hid (fun k => (congrFun hy k : (b k).tmod 30 = y k))
  have HZ := Lib.hid (fun k => (congrFun hz k : (c k).tmod 30 = z k))
  have HA := Lib.hid ha
  have HB := Lib.hid hb
  have HC := Lib.hid hc
  obtain ⟨m, hm⟩ : ∃ m, addD x y = m := ⟨_, rfl⟩
  obtain ⟨n, hn⟩ : ∃ n, addD y x = n := ⟨_, rfl⟩
  obtain ⟨p, hp⟩ : ∃ p, addD m z = p := ⟨_, rfl⟩
  obtain ⟨q, hq⟩ : ∃ q, addD y z = q := ⟨_, rfl⟩
  obtain ⟨r, hr⟩ : ∃ r, addD x q = r := ⟨_, rfl⟩
  obtain ⟨d, hd⟩ : ∃ d, subD m y = d := ⟨_, rfl⟩
  obtain ⟨s, ps, hs⟩ := powD_small x 2 bx (by decide)
  obtain ⟨t, pt, ht⟩ := powD_small x 3 bx (by decide)
  obtain ⟨u, pu, hu⟩ := powD_small x 5 bx (by decide)
  obtain ⟨o, po, ho⟩ := powD_small x 0 bx (by decide)
  obtain ⟨v, hv⟩ : ∃ v, addD s t = v := ⟨_, rfl⟩
  have am : ∀ j, m j = x j + y j := fun j => by rw [← hm]; rfl
  have an : ∀ j, n j = y j + x j := fun j => by rw [← hn]; rfl
  have ap : ∀ j, p j = m j + z j := fun j => by rw [← hp]; rfl
  have aq : ∀ j, q j = y j + z j := fun j => by rw [← hq]; rfl
  have ar : ∀ j, r j = x j + q j := fun j => by rw [← hr]; rfl
  have ad' : ∀ j, d j = m j - y j := fun j => by rw [← hd]; rfl
  have av : ∀ j, v j = s j + t j := fun j => by rw [← hv]; rfl
  have K1 : Hid (∀ w : World, Calls Tryd.prog 41 #[(.agg #[.int .i64 (x 0), .int .i64 (x 1), .int .i64 (x 2), .int .i64 (x 3), .int .i64 (x 4), .int .i64 (x 5), .int .i64 (x 6)]), (.agg #[.int .i64 (y 0), .int .i64 (y 1), .int .i64 (y 2), .int .i64 (y 3), .int .i64 (y 4), .int .i64 (y 5), .int .i64 (y 6)])] w fun x w' => x = .returned (.tuple #[(.agg #[.int .i64 (m 0), .int .i64 (m 1), .int .i64 (m 2), .int .i64 (m 3), .int .i64 (m 4), .int .i64 (m 5), .int .i64 (m 6)]), .int .i64 0]) ∧ Below w.heap.size w w') := Lib.hid (fun w => dmul_at x y m 0 (by rw [mulD_small x y (fun j hj => by have b1 := bx j hj; have b2 := by' j hj; have b3 := bz j hj; have e1 := am j; have e2 := aq j; have e3 := hs j hj; have e4 := ht j hj; omega) (fun j hj => by have b1 := bx j hj; have b2 := by' j hj; have b3 := bz j hj; have e1 := am j; have e2 := aq j; have e3 := hs j hj; have e4 := ht j hj; omega) (fun j hj => by have b1 := bx j hj; have b2 := by' j hj; have b3 := bz j hj; have e1 := am j; have e2 := aq j; have e3 := hs j hj; have e4 := ht j hj; omega), hm]) w)
  have K2 : Hid (∀ w : World, Calls Tryd.prog 41 #[(.agg #[.int .i64 (y 0), .int .i64 (y 1), .int .i64 (y 2), .int .i64 (y 3), .int .i64 (y 4), .int .i64 (y 5), .int .i64 (y 6)]), (.agg #[.int .i64 (x 0), .int .i64 (x 1), .int .i64 (x 2), .int .i64 (x 3), .int .i64 (x 4), .int .i64 (x 5), .int .i64 (x 6)])] w fun x w' => x = .returned (.tuple #[(.agg #[.int .i64 (n 0), .int .i64 (n 1), .int .i64 (n 2), .int .i64 (n 3), .int .i64 (n 4), .int .i64 (n 5), .int .i64 (n 6)]), .int .i64 0]) ∧ Below w.heap.size w w') := Lib.hid (fun w => dmul_at y x n 0 (by rw [mulD_small y x (fun j hj => by have b1 := bx j hj; have b2 := by' j hj; have b3 := bz j hj; have e1 := am j; have e2 := aq j; have e3 := hs j hj; have e4 := ht j hj; omega) (fun j hj => by have b1 := bx j hj; have b2 := by' j hj; have b3 := bz j hj; have e1 := am j; have e2 := aq j; have e3 := hs j hj; have e4 := ht j hj; omega) (fun j hj => by have b1 := bx j hj; have b2 := by' j hj; have b3 := bz j hj; have e1 := am j; have e2 := aq j; have e3 := hs j hj; have e4 := ht j hj; omega), hn]) w)
  have K3 : Hid (∀ w : World, Calls Tryd.prog 41 #[(.agg #[.int .i64 (m 0), .int .i64 (m 1), .int .i64 (m 2), .int .i64 (m 3), .int .i64 (m 4), .int .i64 (m 5), .int .i64 (m 6)]), (.agg #[.int .i64 (z 0), .int .i64 (z 1), .int .i64 (z 2), .int .i64 (z 3), .int .i64 (z 4), .int .i64 (z 5), .int .i64 (z 6)])] w fun x w' => x = .returned (.tuple #[(.agg #[.int .i64 (p 0), .int .i64 (p 1), .int .i64 (p 2), .int .i64 (p 3), .int .i64 (p 4), .int .i64 (p 5), .int .i64 (p 6)]), .int .i64 0]) ∧ Below w.heap.size w w') := Lib.hid (fun w => dmul_at m z p 0 (by rw [mulD_small m z (fun j hj => by have b1 := bx j hj; have b2 := by' j hj; have b3 := bz j hj; have e1 := am j; have e2 := aq j; have e3 := hs j hj; have e4 := ht j hj; omega) (fun j hj => by have b1 := bx j hj; have b2 := by' j hj; have b3 := bz j hj; have e1 := am j; have e2 := aq j; have e3 := hs j hj; have e4 := ht j hj; omega) (fun j hj => by have b1 := bx j hj; have b2 := by' j hj; have b3 := bz j hj; have e1 := am j; have e2 := aq j; have e3 := hs j hj; have e4 := ht j hj; omega), hp]) w)
  have K4 : Hid (∀ w : World, Calls Tryd.prog 41 #[(.agg #[.int .i64 (y 0), .int .i64 (y 1), .int .i64 (y 2), .int .i64 (y 3), .int .i64 (y 4), .int .i64 (y 5), .int .i64 (y 6)]), (.agg #[.int .i64 (z 0), .int .i64 (z 1), .int .i64 (z 2), .int .i64 (z 3), .int .i64 (z 4), .int .i64 (z 5), .int .i64 (z 6)])] w fun x w' => x = .returned (.tuple #[(.agg #[.int .i64 (q 0), .int .i64 (q 1), .int .i64 (q 2), .int .i64 (q 3), .int .i64 (q 4), .int .i64 (q 5), .int .i64 (q 6)]), .int .i64 0]) ∧ Below w.heap.size w w') := Lib.hid (fun w => dmul_at y z q 0 (by rw [mulD_small y z (fun j hj => by have b1 := bx j hj; have b2 := by' j hj; have b3 := bz j hj; have e1 := am j; have e2 := aq j; have e3 := hs j hj; have e4 := ht j hj; omega) (fun j hj => by have b1 := bx j hj; have b2 := by' j hj; have b3 := bz j hj; have e1 := am j; have e2 := aq j; have e3 := hs j hj; have e4 := ht j hj; omega) (fun j hj => by have b1 := bx j hj; have b2 := by' j hj; have b3 := bz j hj; have e1 := am j; have e2 := aq j; have e3 := hs j hj; have e4 := ht j hj; omega), hq]) w)
  have K5 : Hid (∀ w : World, Calls Tryd.prog 41 #[(.agg #[.int .i64 (x 0), .int .i64 (x 1), .int .i64 (x 2), .int .i64 (x 3), .int .i64 (x 4), .int .i64 (x 5), .int .i64 (x 6)]), (.agg #[.int .i64 (q 0), .int .i64 (q 1), .int .i64 (q 2), .int .i64 (q 3), .int .i64 (q 4), .int .i64 (q 5), .int .i64 (q 6)])] w fun x w' => x = .returned (.tuple #[(.agg #[.int .i64 (r 0), .int .i64 (r 1), .int .i64 (r 2), .int .i64 (r 3), .int .i64 (r 4), .int .i64 (r 5), .int .i64 (r 6)]), .int .i64 0]) ∧ Below w.heap.size w w') := Lib.hid (fun w => dmul_at x q r 0 (by rw [mulD_small x q (fun j hj => by have b1 := bx j hj; have b2 := by' j hj; have b3 := bz j hj; have e1 := am j; have e2 := aq j; have e3 := hs j hj; have e4 := ht j hj; omega) (fun j hj => by have b1 := bx j hj; have b2 := by' j hj; have b3 := bz j hj; have e1 := am j; have e2 := aq j; have e3 := hs j hj; have e4 := ht j hj; omega) (fun j hj => by have b1 := bx j hj; have b2 := by' j hj; have b3 := bz j hj; have e1 := am j; have e2 := aq j; have e3 := hs j hj; have e4 := ht j hj; omega), hr]) w)
  have K6 : Hid (∀ w : World, Calls Tryd.prog 42 #[(.agg #[.int .i64 (m 0), .int .i64 (m 1), .int .i64 (m 2), .int .i64 (m 3), .int .i64 (m 4), .int .i64 (m 5), .int .i64 (m 6)]), (.agg #[.int .i64 (y 0), .int .i64 (y 1), .int .i64 (y 2), .int .i64 (y 3), .int .i64 (y 4), .int .i64 (y 5), .int .i64 (y 6)])] w fun x w' => x = .returned (.tuple #[(.agg #[.int .i64 (d 0), .int .i64 (d 1), .int .i64 (d 2), .int .i64 (d 3), .int .i64 (d 4), .int .i64 (d 5), .int .i64 (d 6)]), .int .i64 0]) ∧ Below w.heap.size w w') := Lib.hid (fun w => ddiv_at m y d 0 (by rw [divD_small m y (fun j hj => by have b1 := bx j hj; have b2 := by' j hj; have b3 := bz j hj; have e1 := am j; have e2 := aq j; have e3 := hs j hj; have e4 := ht j hj; omega) (fun j hj => by have b1 := bx j hj; have b2 := by' j hj; have b3 := bz j hj; have e1 := am j; have e2 := aq j; have e3 := hs j hj; have e4 := ht j hj; omega) (fun j hj => by have b1 := bx j hj; have b2 := by' j hj; have b3 := bz j hj; have e1 := am j; have e2 := aq j; have e3 := hs j hj; have e4 := ht j hj; omega), hd]) w)
  have K7 : Hid (∀ w : World, Calls Tryd.prog 43 #[(.agg #[.int .i64 (x 0), .int .i64 (x 1), .int .i64 (x 2), .int .i64 (x 3), .int .i64 (x 4), .int .i64 (x 5), .int .i64 (x 6)]), .int .i64 2] w fun x w' => x = .returned (.tuple #[(.agg #[.int .i64 (s 0), .int .i64 (s 1), .int .i64 (s 2), .int .i64 (s 3), .int .i64 (s 4), .int .i64 (s 5), .int .i64 (s 6)]), .int .i64 0]) ∧ Below w.heap.size w w') := Lib.hid (fun w => dpow_at x s 2 0 (by decide) ps w)
  have K8 : Hid (∀ w : World, Calls Tryd.prog 43 #[(.agg #[.int .i64 (x 0), .int .i64 (x 1), .int .i64 (x 2), .int .i64 (x 3), .int .i64 (x 4), .int .i64 (x 5), .int .i64 (x 6)]), .int .i64 3] w fun x w' => x = .returned (.tuple #[(.agg #[.int .i64 (t 0), .int .i64 (t 1), .int .i64 (t 2), .int .i64 (t 3), .int .i64 (t 4), .int .i64 (t 5), .int .i64 (t 6)]), .int .i64 0]) ∧ Below w.heap.size w w') := Lib.hid (fun w => dpow_at x t 3 0 (by decide) pt w)
  have K9 : Hid (∀ w : World, Calls Tryd.prog 43 #[(.agg #[.int .i64 (x 0), .int .i64 (x 1), .int .i64 (x 2), .int .i64 (x 3), .int .i64 (x 4), .int .i64 (x 5), .int .i64 (x 6)]), .int .i64 5] w fun x w' => x = .returned (.tuple #[(.agg #[.int .i64 (u 0), .int .i64 (u 1), .int .i64 (u 2), .int .i64 (u 3), .int .i64 (u 4), .int .i64 (u 5), .int .i64 (u 6)]), .int .i64 0]) ∧ Below w.heap.size w w') := Lib.hid (fun w => dpow_at x u 5 0 (by decide) pu w)
  have K11 : Hid (∀ w : World, Calls Tryd.prog 43 #[(.agg #[.int .i64 (x 0), .int .i64 (x 1), .int .i64 (x 2), .int .i64 (x 3), .int .i64 (x 4), .int .i64 (x 5), .int .i64 (x 6)]), .int .i64 0] w fun x w' => x = .returned (.tuple #[(.agg #[.int .i64 (o 0), .int .i64 (o 1), .int .i64 (o 2), .int .i64 (o 3), .int .i64 (o 4), .int .i64 (o 5), .int .i64 (o 6)]), .int .i64 0]) ∧ Below w.heap.size w w') := Lib.hid (fun w => dpow_at x o 0 0 (by decide) po w)
  have K10 : Hid (∀ w : World, Calls Tryd.prog 41 #[(.agg #[.int .i64 (s 0), .int .i64 (s 1), .int .i64 (s 2), .int .i64 (s 3), .int .i64 (s 4), .int .i64 (s 5), .int .i64 (s 6)]), (.agg #[.int .i64 (t 0), .int .i64 (t 1), .int .i64 (t 2), .int .i64 (t 3), .int .i64 (t 4), .int .i64 (t 5), .int .i64 (t 6)])] w fun x w' => x = .returned (.tuple #[(.agg #[.int .i64 (v 0), .int .i64 (v 1), .int .i64 (v 2), .int .i64 (v 3), .int .i64 (v 4), .int .i64 (v 5), .int .i64 (v 6)]), .int .i64 0]) ∧ Below w.heap.size w w') := Lib.hid (fun w => dmul_at s t v 0 (by rw [mulD_small s t (fun j hj => by have b1 := bx j hj; have b2 := by' j hj; have b3 := bz j hj; have e1 := am j; have e2 := aq j; have e3 := hs j hj; have e4 := ht j hj; omega) (fun j hj => by have b1 := bx j hj; have b2 := by' j hj; have b3 := bz j hj; have e1 := am j; have e2 := aq j; have e3 := hs j hj; have e4 := ht j hj; omega) (fun j hj => by have b1 := bx j hj; have b2 := by' j hj; have b3 := bz j hj; have e1 := am j; have e2 := aq j; have e3 := hs j hj; have e4 := ht j hj; omega), hv]) w)
  have q1 : ∀ (dd : Nat) (w : World), (Op.equalIn (dd + 2) 65 (.agg #[.int .i64 (m 0), .int .i64 (m 1), .int .i64 (m 2), .int .i64 (m 3), .int .i64 (m 4), .int .i64 (m 5), .int .i64 (m 6)]) (.agg #[.int .i64 (n 0), .int .i64 (n 1), .int .i64 (n 2), .int .i64 (n 3), .int .i64 (n 4), .int .i64 (n 5), .int .i64 (n 6)])).run Tryd.prog w = .ok true w := fun i w => eqDim_at i w m n (fun j hj => by rw [am, an]; omega)
  have q2 : ∀ (dd : Nat) (w : World), (Op.equalIn (dd + 2) 65 (.agg #[.int .i64 (p 0), .int .i64 (p 1), .int .i64 (p 2), .int .i64 (p 3), .int .i64 (p 4), .int .i64 (p 5), .int .i64 (p 6)]) (.agg #[.int .i64 (r 0), .int .i64 (r 1), .int .i64 (r 2), .int .i64 (r 3), .int .i64 (r 4), .int .i64 (r 5), .int .i64 (r 6)])).run Tryd.prog w = .ok true w := fun i w => eqDim_at i w p r (fun j hj => by rw [ap, ar, am, aq]; omega)
  have q3 : ∀ (dd : Nat) (w : World), (Op.equalIn (dd + 2) 65 (.agg #[.int .i64 (d 0), .int .i64 (d 1), .int .i64 (d 2), .int .i64 (d 3), .int .i64 (d 4), .int .i64 (d 5), .int .i64 (d 6)]) (.agg #[.int .i64 (x 0), .int .i64 (x 1), .int .i64 (x 2), .int .i64 (x 3), .int .i64 (x 4), .int .i64 (x 5), .int .i64 (x 6)])).run Tryd.prog w = .ok true w := fun i w => eqDim_at i w d x (fun j hj => by rw [ad', am]; omega)
  have q4 : ∀ (dd : Nat) (w : World), (Op.equalIn (dd + 2) 65 (.agg #[.int .i64 (u 0), .int .i64 (u 1), .int .i64 (u 2), .int .i64 (u 3), .int .i64 (u 4), .int .i64 (u 5), .int .i64 (u 6)]) (.agg #[.int .i64 (v 0), .int .i64 (v 1), .int .i64 (v 2), .int .i64 (v 3), .int .i64 (v 4), .int .i64 (v 5), .int .i64 (v 6)])).run Tryd.prog w = .ok true w := fun i w => eqDim_at i w u v (fun j hj => by rw [av, hu j hj, hs j hj, ht j hj]; omega)
  have q5 : ∀ (dd : Nat) (w : World), (Op.equalIn (dd + 2) 65 (.agg #[.int .i64 (o 0), .int .i64 (o 1), .int .i64 (o 2), .int .i64 (o 3), .int .i64 (o 4), .int .i64 (o 5), .int .i64 (o 6)]) (.agg #[.int .i64 0, .int .i64 0, .int .i64 0, .int .i64 0, .int .i64 0, .int .i64 0, .int .i64 0])).run Tryd.prog w = .ok true w := fun i w => eqDim_at i w o zD (fun j hj => by rw [ho j hj]; simp [zD])
  clear hx hy hz ha hb hc bx by' bz hm hn hp hq hr hd ps hs pt ht pu hu po ho hv am an ap aq ar ad' av
  obtain ⟨g, hg⟩ : ∃ g, w.heap.size = g := ⟨_, rfl⟩
  obtain ⟨V1, e1⟩ : ∃ V, w.alloc (.cells #[.int .i8 (a 0), .int .i8 (a 1), .int .i8 (a 2), .int .i8 (a 3), .int .i8 (a 4), .int .i8 (a 5), .int .i8 (a 6)] 76) = V := ⟨_, rfl⟩
  obtain ⟨V2, e2⟩ : ∃ V, V1.alloc (.cells #[.int .i8 (b 0), .int .i8 (b 1), .int .i8 (b 2), .int .i8 (b 3), .int .i8 (b 4), .int .i8 (b 5), .int .i8 (b 6)] 76) = V := ⟨_, rfl⟩
  obtain ⟨V3, e3⟩ : ∃ V, V2.alloc (.cells #[.int .i8 (c 0), .int .i8 (c 1), .int .i8 (c 2), .int .i8 (c 3), .int .i8 (c 4), .int .i8 (c 5), .int .i8 (c 6)] 76) = V := ⟨_, rfl⟩
  obtain ⟨V4, e4⟩ : ∃ V, V3.alloc (.cells #[.int .i64 0, .int .i64 0, .int .i64 0, .int .i64 0, .int .i64 0, .int .i64 0, .int .i64 0] 65) = V := ⟨_, rfl⟩
  obtain ⟨V5, e5⟩ : ∃ V, V4.alloc (.cells #[.int .i64 0, .int .i64 0, .int .i64 0, .int .i64 0, .int .i64 0, .int .i64 0, .int .i64 0] 65) = V := ⟨_, rfl⟩
  obtain ⟨V6, e6⟩ : ∃ V, V5.alloc (.cells #[.int .i64 0, .int .i64 0, .int .i64 0, .int .i64 0, .int .i64 0, .int .i64 0, .int .i64 0] 65) = V := ⟨_, rfl⟩
  have z1 : V1.heap.size = g + 1 := by rw [← e1]; simp [hg]
  have k1 : Below w.heap.size w V1 := by rw [← e1]; exact alloc_keep _ _
  have z2 : V2.heap.size = g + 2 := by rw [← e2]; simp [z1]
  have k2 : Below V1.heap.size V1 V2 := by rw [← e2]; exact alloc_keep _ _
  have z3 : V3.heap.size = g + 3 := by rw [← e3]; simp [z2]
  have k3 : Below V2.heap.size V2 V3 := by rw [← e3]; exact alloc_keep _ _
  have z4 : V4.heap.size = g + 4 := by rw [← e4]; simp [z3]
  have k4 : Below V3.heap.size V3 V4 := by rw [← e4]; exact alloc_keep _ _
  have z5 : V5.heap.size = g + 5 := by rw [← e5]; simp [z4]
  have k5 : Below V4.heap.size V4 V5 := by rw [← e5]; exact alloc_keep _ _
  have z6 : V6.heap.size = g + 6 := by rw [← e6]; simp [z5]
  have k6 : Below V5.heap.size V5 V6 := by rw [← e6]; exact alloc_keep _ _
  have Ga : Hid (at8 V6 g a) := Lib.hid (at8_next (at8_next (at8_next (at8_next (at8_next (by rw [← e1, ← hg]; exact at8_alloc w a _ : at8 V1 g a) k2) k3) k4) k5) k6)
  have Gb : Hid (at8 V6 (g + 1) b) := Lib.hid (at8_next (at8_next (at8_next (at8_next (by rw [← e2, ← z1]; exact at8_alloc V1 b _ : at8 V2 (g + 1) b) k3) k4) k5) k6)
  have Gc : Hid (at8 V6 (g + 2) c) := Lib.hid (at8_next (at8_next (at8_next (by rw [← e3, ← z2]; exact at8_alloc V2 c _ : at8 V3 (g + 2) c) k4) k5) k6)
  have Hx : Hid (at7 V6 (g + 3) zD) := Lib.hid (at7_next (at7_next (by rw [← e4, ← z3]; exact at7_zero V3 _ : at7 V4 (g + 3) zD) k5) k6)
  have Fx : Hid (at7f V6 (g + 3)) := Lib.hid (at7f_next (at7f_next (fun j => by rw [← e4, ← z3]; apply World.frozen?_alloc_new : at7f V4 (g + 3)) (by omega) k5) (by omega) k6)
  have Hy : Hid (at7 V6 (g + 4) zD) := Lib.hid (at7_next (by rw [← e5, ← z4]; exact at7_zero V4 _ : at7 V5 (g + 4) zD) k6)
  have Fy : Hid (at7f V6 (g + 4)) := Lib.hid (at7f_next (fun j => by rw [← e5, ← z4]; apply World.frozen?_alloc_new : at7f V5 (g + 4)) (by omega) k6)
  have Hz : Hid (at7 V6 (g + 5) zD) := Lib.hid (by rw [← e6, ← z5]; exact at7_zero V5 _ : at7 V6 (g + 5) zD)
  have Fz : Hid (at7f V6 (g + 5)) := Lib.hid (fun j => by rw [← e6, ← z5]; apply World.frozen?_alloc_new : at7f V6 (g + 5))
  have BW : Hid (Below w.heap.size w V6) := Lib.hid (((((k1.trans (k2.mono (by omega))).trans (k3.mono (by omega))).trans (k4.mono (by omega))).trans (k5.mono (by omega))).trans (k6.mono (by omega)))
  have HE1 := Lib.hid e1
  have HE2 := Lib.hid e2
  have HE3 := Lib.hid e3
  have HE4 := Lib.hid e4
  have HE5 := Lib.hid e5
  have HE6 := Lib.hid e6
  clear e1 e2 e3 e4 e5 e6 k1 k2 k3 k4 k5 k6 z1 z2 z3 z4 z5
  go_enter Tryd.func12, Tryd.ntmps12
  go_wp2_with fail
  rw [HE1.out, HE2.out, HE3.out, HE4.out, HE5.out, HE6.out]
  clear HE1 HE2 HE3 HE4 HE5 HE6
  go_loopw [10] (fun i wr => ∃ k : Nat, i = .int .i64 k ∧ k ≤ 7 ∧ Hid (at7 wr (g + 3) (mixD zD x k)) ∧ Hid (at7 wr (g + 4) (mixD zD y k)) ∧ Hid (at7 wr (g + 5) (mixD zD z k)) ∧ Hid (at8 wr g a) ∧ Hid (at8 wr (g + 1) b) ∧ Hid (at8 wr (g + 2) c) ∧ Hid (at7f wr (g + 3)) ∧ Hid (at7f wr (g + 4)) ∧ Hid (at7f wr (g + 5)) ∧ Hid (Below w.heap.size w wr)) (fun i _ => 7 - (intOf i).toNat)
  case atStart => exact ⟨0, rfl, Nat.zero_le _, Lib.hid (by rw [mix_zero]; exact Hx.out), Lib.hid (by rw [mix_zero]; exact Hy.out), Lib.hid (by rw [mix_zero]; exact Hz.out), Ga, Gb, Gc, Fx, Fy, Fz, BW⟩
  case round =>
    clear Hx Hy Hz Ga Gb Gc Fx Fy Fz BW
    obtain ⟨k, rfl, hk, Hx, Hy, Hz, Ga, Gb, Gc, Fx, Fy, Fz, BW⟩ := hrel
    by_cases hlt : k < 7
    · have ca : wr.cell? ⟨g, k, none⟩ = some (.int .i8 (a k)) := Ga.out k hlt
      have cb : wr.cell? ⟨g + 1, k, none⟩ = some (.int .i8 (b k)) := Gb.out k hlt
      have cc : wr.cell? ⟨g + 2, k, none⟩ = some (.int .i8 (c k)) := Gc.out k hlt
      have cx : wr.cell? ⟨g + 3, k, none⟩ = some (.int .i64 0) := by rw [Hx.out k hlt, mix_here]; rfl
      have cy : wr.cell? ⟨g + 4, k, none⟩ = some (.int .i64 0) := by rw [Hy.out k hlt, mix_here]; rfl
      have cz : wr.cell? ⟨g + 5, k, none⟩ = some (.int .i64 0) := by rw [Hz.out k hlt, mix_here]; rfl
      have fx : ∀ j, wr.frozen? ⟨g + 3, j, none⟩ = false := Fx.out
      have fy : ∀ j, wr.frozen? ⟨g + 4, j, none⟩ = false := Fy.out
      have fz : ∀ j, wr.frozen? ⟨g + 5, j, none⟩ = false := Fz.out
      have ha := HA.out k hlt
      have hb := HB.out k hlt
      have hc := HC.out k hlt
      have wa : IntKind.i64.wrap (a k) = a k := by rw [IntKind.wrap_i64]; omega
      have wb : IntKind.i64.wrap (b k) = b k := by rw [IntKind.wrap_i64]; omega
      have wc : IntKind.i64.wrap (c k) = c k := by rw [IntKind.wrap_i64]; omega
      have KS : Hid (∀ (w' : World) (p : Addr) (u : Value), (p.block = g + 3 ∨ p.block = g + 4 ∨ p.block = g + 5) → (w'.cell? ⟨g, k, none⟩ = some (.int .i8 (a k)) ∧ w'.cell? ⟨g + 1, k, none⟩ = some (.int .i8 (b k)) ∧ w'.cell? ⟨g + 2, k, none⟩ = some (.int .i8 (c k))) →
          ((w'.setCell p u).cell? ⟨g, k, none⟩ = some (.int .i8 (a k)) ∧ (w'.setCell p u).cell? ⟨g + 1, k, none⟩ = some (.int .i8 (b k)) ∧ (w'.setCell p u).cell? ⟨g + 2, k, none⟩ = some (.int .i8 (c k)))) := Lib.hid (fun w' p u hp h =>
        ⟨(World.cell?_setCell_other _ _ _ _ (by intro e; rw [e] at hp; simp at hp)).trans h.1, (World.cell?_setCell_other _ _ _ _ (by intro e; rw [e] at hp; simp at hp)).trans h.2.1, (World.cell?_setCell_other _ _ _ _ (by intro e; rw [e] at hp; simp at hp)).trans h.2.2⟩)
      go_wp2_with fail
      go_region_held3 (fun w' => w'.cell? ⟨g, k, none⟩ = some (.int .i8 (a k)) ∧ w'.cell? ⟨g + 1, k, none⟩ = some (.int .i8 (b k)) ∧ w'.cell? ⟨g + 2, k, none⟩ = some (.int .i8 (c k))) (first | exact ⟨ca, cb, cc⟩ | exact KS.out _ _ _ (show _ ∨ _ ∨ _ by first | exact .inl rfl | exact .inr (.inl rfl) | exact .inr (.inr rfl)) ⟨ca, cb, cc⟩ | exact KS.out _ _ _ (show _ ∨ _ ∨ _ by first | exact .inl rfl | exact .inr (.inl rfl) | exact .inr (.inr rfl)) (KS.out _ _ _ (show _ ∨ _ ∨ _ by first | exact .inl rfl | exact .inr (.inl rfl) | exact .inr (.inr rfl)) ⟨ca, cb, cc⟩) | exact KS.out _ _ _ (show _ ∨ _ ∨ _ by first | exact .inl rfl | exact .inr (.inl rfl) | exact .inr (.inr rfl)) (KS.out _ _ _ (show _ ∨ _ ∨ _ by first | exact .inl rfl | exact .inr (.inl rfl) | exact .inr (.inr rfl)) (KS.out _ _ _ (show _ ∨ _ ∨ _ by first | exact .inl rfl | exact .inr (.inl rfl) | exact .inr (.inr rfl)) ⟨ca, cb, cc⟩))) (fail)
      have tx : (a k).tmod 30 = x k := HX.out k
      have ty : (b k).tmod 30 = y k := HY.out k
      have tz : (c k).tmod 30 = z k := HZ.out k
      have h1 : at7 (wr.setCell ⟨g + 3, k, none⟩ (.int .i64 ((a k).tmod 30))) (g + 3) (mixD zD x (k + 1)) := by rw [tx]; exact at7_mix Hx.out hlt
      have h2 : at7 ((wr.setCell ⟨g + 3, k, none⟩ (.int .i64 ((a k).tmod 30))).setCell ⟨g + 4, k, none⟩ (.int .i64 ((b k).tmod 30))) (g + 4) (mixD zD y (k + 1)) := by rw [ty]; exact at7_mix (at7_other Hy.out ⟨g + 3, k, none⟩ (by simp) _) hlt
      have h3 : at7 (((wr.setCell ⟨g + 3, k, none⟩ (.int .i64 ((a k).tmod 30))).setCell ⟨g + 4, k, none⟩ (.int .i64 ((b k).tmod 30))).setCell ⟨g + 5, k, none⟩ (.int .i64 ((c k).tmod 30))) (g + 5) (mixD zD z (k + 1)) := by rw [tz]; exact at7_mix (at7_other (at7_other Hz.out ⟨g + 3, k, none⟩ (by simp) _) ⟨g + 4, k, none⟩ (by simp) _) hlt
      have J1 := Lib.hid (at7_other (at7_other h1 ⟨g + 4, k, none⟩ (by simp) (.int .i64 ((b k).tmod 30))) ⟨g + 5, k, none⟩ (by simp) (.int .i64 ((c k).tmod 30)))
      have J2 := Lib.hid (at7_other h2 ⟨g + 5, k, none⟩ (by simp) (.int .i64 ((c k).tmod 30)))
      have J3 := Lib.hid h3
      have J4 := Lib.hid (at8_other (at8_other (at8_other Ga.out ⟨g + 3, k, none⟩ (by simp) (.int .i64 ((a k).tmod 30))) ⟨g + 4, k, none⟩ (by simp) (.int .i64 ((b k).tmod 30))) ⟨g + 5, k, none⟩ (by simp) (.int .i64 ((c k).tmod 30)))
      have J5 := Lib.hid (at8_other (at8_other (at8_other Gb.out ⟨g + 3, k, none⟩ (by simp) (.int .i64 ((a k).tmod 30))) ⟨g + 4, k, none⟩ (by simp) (.int .i64 ((b k).tmod 30))) ⟨g + 5, k, none⟩ (by simp) (.int .i64 ((c k).tmod 30)))
      have J6 := Lib.hid (at8_other (at8_other (at8_other Gc.out ⟨g + 3, k, none⟩ (by simp) (.int .i64 ((a k).tmod 30))) ⟨g + 4, k, none⟩ (by simp) (.int .i64 ((b k).tmod 30))) ⟨g + 5, k, none⟩ (by simp) (.int .i64 ((c k).tmod 30)))
      have J7 := Lib.hid (((BW.out.setCell (p := ⟨g + 3, k, none⟩) (show w.heap.size ≤ g + 3 by omega) (.int .i64 ((a k).tmod 30))).setCell (p := ⟨g + 4, k, none⟩) (show w.heap.size ≤ g + 4 by omega) (.int .i64 ((b k).tmod 30))).setCell (p := ⟨g + 5, k, none⟩) (show w.heap.size ≤ g + 5 by omega) (.int .i64 ((c k).tmod 30)))
      clear h1 h2 h3 ca cb cc cx cy cz fx fy fz KS tx ty tz wa wb wc
      go_wp2_with fail
      go_roundw
      case rel => exact ⟨k + 1, by go_num, by omega, J1, J2, J3, J4, J5, J6, Lib.hid (fun j => by simpa using Fx.out j), Lib.hid (fun j => by simpa using Fy.out j), Lib.hid (fun j => by simpa using Fz.out j), Lib.hid J7.out.drew⟩
      case measure => simp [intOf]; omega
    · obtain rfl : k = 7 := by omega
      replace Hx : Hid (at7 wr (g + 3) x) := Lib.hid (at7_congr Hx.out (mix_seven zD x))
      replace Hy : Hid (at7 wr (g + 4) y) := Lib.hid (at7_congr Hy.out (mix_seven zD y))
      replace Hz : Hid (at7 wr (g + 5) z) := Lib.hid (at7_congr Hz.out (mix_seven zD z))
      clear HX HY HZ HA HB HC Ga Gb Gc Fx Fy Fz hk hlt
      obtain ⟨fx0, fx1, fx2, fx3, fx4, fx5, fx6⟩ : wr.cell? ⟨(g + 3), 0, none⟩ = some (.int .i64 (x 0)) ∧ wr.cell? ⟨(g + 3), 1, none⟩ = some (.int .i64 (x 1)) ∧ wr.cell? ⟨(g + 3), 2, none⟩ = some (.int .i64 (x 2)) ∧ wr.cell? ⟨(g + 3), 3, none⟩ = some (.int .i64 (x 3)) ∧ wr.cell? ⟨(g + 3), 4, none⟩ = some (.int .i64 (x 4)) ∧ wr.cell? ⟨(g + 3), 5, none⟩ = some (.int .i64 (x 5)) ∧ wr.cell? ⟨(g + 3), 6, none⟩ = some (.int .i64 (x 6)) := at7_open Hx.out
      have lx := at7_lt Hx.out
      obtain ⟨fy0, fy1, fy2, fy3, fy4, fy5, fy6⟩ : wr.cell? ⟨(g + 4), 0, none⟩ = some (.int .i64 (y 0)) ∧ wr.cell? ⟨(g + 4), 1, none⟩ = some (.int .i64 (y 1)) ∧ wr.cell? ⟨(g + 4), 2, none⟩ = some (.int .i64 (y 2)) ∧ wr.cell? ⟨(g + 4), 3, none⟩ = some (.int .i64 (y 3)) ∧ wr.cell? ⟨(g + 4), 4, none⟩ = some (.int .i64 (y 4)) ∧ wr.cell? ⟨(g + 4), 5, none⟩ = some (.int .i64 (y 5)) ∧ wr.cell? ⟨(g + 4), 6, none⟩ = some (.int .i64 (y 6)) := at7_open Hy.out
      have ly := at7_lt Hy.out
      go_wp2_with fail
      clear fx0 fx1 fx2 fx3 fx4 fx5 fx6 lx
      clear fy0 fy1 fy2 fy3 fy4 fy5 fy6 ly
      refine (K1.out _).mono ?_
      rintro e w1 ⟨rfl, hb⟩
      replace Hx := Lib.hid (at7_next Hx.out hb)
      replace Hy := Lib.hid (at7_next Hy.out hb)
      replace Hz := Lib.hid (at7_next Hz.out hb)
      replace BW := Lib.hid (BW.out.trans (hb.mono BW.out.size))
      clear hb
      obtain ⟨fx0, fx1, fx2, fx3, fx4, fx5, fx6⟩ : w1.cell? ⟨(g + 3), 0, none⟩ = some (.int .i64 (x 0)) ∧ w1.cell? ⟨(g + 3), 1, none⟩ = some (.int .i64 (x 1)) ∧ w1.cell? ⟨(g + 3), 2, none⟩ = some (.int .i64 (x 2)) ∧ w1.cell? ⟨(g + 3), 3, none⟩ = some (.int .i64 (x 3)) ∧ w1.cell? ⟨(g + 3), 4, none⟩ = some (.int .i64 (x 4)) ∧ w1.cell? ⟨(g + 3), 5, none⟩ = some (.int .i64 (x 5)) ∧ w1.cell? ⟨(g + 3), 6, none⟩ = some (.int .i64 (x 6)) := at7_open Hx.out
      have lx := at7_lt Hx.out
      obtain ⟨fy0, fy1, fy2, fy3, fy4, fy5, fy6⟩ : w1.cell? ⟨(g + 4), 0, none⟩ = some (.int .i64 (y 0)) ∧ w1.cell? ⟨(g + 4), 1, none⟩ = some (.int .i64 (y 1)) ∧ w1.cell? ⟨(g + 4), 2, none⟩ = some (.int .i64 (y 2)) ∧ w1.cell? ⟨(g + 4), 3, none⟩ = some (.int .i64 (y 3)) ∧ w1.cell? ⟨(g + 4), 4, none⟩ = some (.int .i64 (y 4)) ∧ w1.cell? ⟨(g + 4), 5, none⟩ = some (.int .i64 (y 5)) ∧ w1.cell? ⟨(g + 4), 6, none⟩ = some (.int .i64 (y 6)) := at7_open Hy.out
      have ly := at7_lt Hy.out
      go_wp2_with fail
      clear fx0 fx1 fx2 fx3 fx4 fx5 fx6 lx
      clear fy0 fy1 fy2 fy3 fy4 fy5 fy6 ly
      obtain ⟨W2, hW⟩ : ∃ W, w1.alloc (.cells #[.int .i64 (m 0), .int .i64 (m 1), .int .i64 (m 2), .int .i64 (m 3), .int .i64 (m 4), .int .i64 (m 5), .int .i64 (m 6)] 65) = W := ⟨_, rfl⟩
      rw [hW]
      have hk : Below w1.heap.size w1 W2 := by rw [← hW]; exact alloc_keep _ _
      replace Hx := Lib.hid (at7_next Hx.out hk)
      replace Hy := Lib.hid (at7_next Hy.out hk)
      replace Hz := Lib.hid (at7_next Hz.out hk)
      have Hm : Hid (at7 W2 w1.heap.size m) := Lib.hid (by rw [← hW]; exact at7_alloc w1 m 65)
      replace BW := Lib.hid (BW.out.trans (hk.mono BW.out.size))
      clear hW hk
      refine (K2.out _).mono ?_
      rintro e w3 ⟨rfl, hb⟩
      replace Hx := Lib.hid (at7_next Hx.out hb)
      replace Hy := Lib.hid (at7_next Hy.out hb)
      replace Hz := Lib.hid (at7_next Hz.out hb)
      replace Hm := Lib.hid (at7_next Hm.out hb)
      replace BW := Lib.hid (BW.out.trans (hb.mono BW.out.size))
      clear hb
      obtain ⟨fm0, fm1, fm2, fm3, fm4, fm5, fm6⟩ : w3.cell? ⟨w1.heap.size, 0, none⟩ = some (.int .i64 (m 0)) ∧ w3.cell? ⟨w1.heap.size, 1, none⟩ = some (.int .i64 (m 1)) ∧ w3.cell? ⟨w1.heap.size, 2, none⟩ = some (.int .i64 (m 2)) ∧ w3.cell? ⟨w1.heap.size, 3, none⟩ = some (.int .i64 (m 3)) ∧ w3.cell? ⟨w1.heap.size, 4, none⟩ = some (.int .i64 (m 4)) ∧ w3.cell? ⟨w1.heap.size, 5, none⟩ = some (.int .i64 (m 5)) ∧ w3.cell? ⟨w1.heap.size, 6, none⟩ = some (.int .i64 (m 6)) := at7_open Hm.out
      have lm := at7_lt Hm.out
      obtain ⟨fz0, fz1, fz2, fz3, fz4, fz5, fz6⟩ : w3.cell? ⟨(g + 5), 0, none⟩ = some (.int .i64 (z 0)) ∧ w3.cell? ⟨(g + 5), 1, none⟩ = some (.int .i64 (z 1)) ∧ w3.cell? ⟨(g + 5), 2, none⟩ = some (.int .i64 (z 2)) ∧ w3.cell? ⟨(g + 5), 3, none⟩ = some (.int .i64 (z 3)) ∧ w3.cell? ⟨(g + 5), 4, none⟩ = some (.int .i64 (z 4)) ∧ w3.cell? ⟨(g + 5), 5, none⟩ = some (.int .i64 (z 5)) ∧ w3.cell? ⟨(g + 5), 6, none⟩ = some (.int .i64 (z 6)) := at7_open Hz.out
      have lz := at7_lt Hz.out
      go_wp2_with fail
      clear fm0 fm1 fm2 fm3 fm4 fm5 fm6 lm
      clear fz0 fz1 fz2 fz3 fz4 fz5 fz6 lz
      obtain ⟨W4, hW⟩ : ∃ W, w3.alloc (.cells #[.int .i64 (n 0), .int .i64 (n 1), .int .i64 (n 2), .int .i64 (n 3), .int .i64 (n 4), .int .i64 (n 5), .int .i64 (n 6)] 65) = W := ⟨_, rfl⟩
      rw [hW]
      have hk : Below w3.heap.size w3 W4 := by rw [← hW]; exact alloc_keep _ _
      replace Hx := Lib.hid (at7_next Hx.out hk)
      replace Hy := Lib.hid (at7_next Hy.out hk)
      replace Hz := Lib.hid (at7_next Hz.out hk)
      replace Hm := Lib.hid (at7_next Hm.out hk)
      have Hn : Hid (at7 W4 w3.heap.size n) := Lib.hid (by rw [← hW]; exact at7_alloc w3 n 65)
      replace BW := Lib.hid (BW.out.trans (hk.mono BW.out.size))
      clear hW hk
      refine (K3.out _).mono ?_
      rintro e w5 ⟨rfl, hb⟩
      replace Hx := Lib.hid (at7_next Hx.out hb)
      replace Hy := Lib.hid (at7_next Hy.out hb)
      replace Hz := Lib.hid (at7_next Hz.out hb)
      replace Hm := Lib.hid (at7_next Hm.out hb)
      replace Hn := Lib.hid (at7_next Hn.out hb)
      replace BW := Lib.hid (BW.out.trans (hb.mono BW.out.size))
      clear hb
      obtain ⟨fy0, fy1, fy2, fy3, fy4, fy5, fy6⟩ : w5.cell? ⟨(g + 4), 0, none⟩ = some (.int .i64 (y 0)) ∧ w5.cell? ⟨(g + 4), 1, none⟩ = some (.int .i64 (y 1)) ∧ w5.cell? ⟨(g + 4), 2, none⟩ = some (.int .i64 (y 2)) ∧ w5.cell? ⟨(g + 4), 3, none⟩ = some (.int .i64 (y 3)) ∧ w5.cell? ⟨(g + 4), 4, none⟩ = some (.int .i64 (y 4)) ∧ w5.cell? ⟨(g + 4), 5, none⟩ = some (.int .i64 (y 5)) ∧ w5.cell? ⟨(g + 4), 6, none⟩ = some (.int .i64 (y 6)) := at7_open Hy.out
      have ly := at7_lt Hy.out
      obtain ⟨fz0, fz1, fz2, fz3, fz4, fz5, fz6⟩ : w5.cell? ⟨(g + 5), 0, none⟩ = some (.int .i64 (z 0)) ∧ w5.cell? ⟨(g + 5), 1, none⟩ = some (.int .i64 (z 1)) ∧ w5.cell? ⟨(g + 5), 2, none⟩ = some (.int .i64 (z 2)) ∧ w5.cell? ⟨(g + 5), 3, none⟩ = some (.int .i64 (z 3)) ∧ w5.cell? ⟨(g + 5), 4, none⟩ = some (.int .i64 (z 4)) ∧ w5.cell? ⟨(g + 5), 5, none⟩ = some (.int .i64 (z 5)) ∧ w5.cell? ⟨(g + 5), 6, none⟩ = some (.int .i64 (z 6)) := at7_open Hz.out
      have lz := at7_lt Hz.out
      go_wp2_with fail
      clear fy0 fy1 fy2 fy3 fy4 fy5 fy6 ly
      clear fz0 fz1 fz2 fz3 fz4 fz5 fz6 lz
      obtain ⟨W6, hW⟩ : ∃ W, w5.alloc (.cells #[.int .i64 (p 0), .int .i64 (p 1), .int .i64 (p 2), .int .i64 (p 3), .int .i64 (p 4), .int .i64 (p 5), .int .i64 (p 6)] 65) = W := ⟨_, rfl⟩
      rw [hW]
      have hk : Below w5.heap.size w5 W6 := by rw [← hW]; exact alloc_keep _ _
      replace Hx := Lib.hid (at7_next Hx.out hk)
      replace Hy := Lib.hid (at7_next Hy.out hk)
      replace Hz := Lib.hid (at7_next Hz.out hk)
      replace Hm := Lib.hid (at7_next Hm.out hk)
      replace Hn := Lib.hid (at7_next Hn.out hk)
      have Hp : Hid (at7 W6 w5.heap.size p) := Lib.hid (by rw [← hW]; exact at7_alloc w5 p 65)
      replace BW := Lib.hid (BW.out.trans (hk.mono BW.out.size))
      clear hW hk
      refine (K4.out _).mono ?_
      rintro e w7 ⟨rfl, hb⟩
      replace Hx := Lib.hid (at7_next Hx.out hb)
      replace Hy := Lib.hid (at7_next Hy.out hb)
      replace Hz := Lib.hid (at7_next Hz.out hb)
      replace Hm := Lib.hid (at7_next Hm.out hb)
      replace Hn := Lib.hid (at7_next Hn.out hb)
      replace Hp := Lib.hid (at7_next Hp.out hb)
      replace BW := Lib.hid (BW.out.trans (hb.mono BW.out.size))
      clear hb
      obtain ⟨fx0, fx1, fx2, fx3, fx4, fx5, fx6⟩ : w7.cell? ⟨(g + 3), 0, none⟩ = some (.int .i64 (x 0)) ∧ w7.cell? ⟨(g + 3), 1, none⟩ = some (.int .i64 (x 1)) ∧ w7.cell? ⟨(g + 3), 2, none⟩ = some (.int .i64 (x 2)) ∧ w7.cell? ⟨(g + 3), 3, none⟩ = some (.int .i64 (x 3)) ∧ w7.cell? ⟨(g + 3), 4, none⟩ = some (.int .i64 (x 4)) ∧ w7.cell? ⟨(g + 3), 5, none⟩ = some (.int .i64 (x 5)) ∧ w7.cell? ⟨(g + 3), 6, none⟩ = some (.int .i64 (x 6)) := at7_open Hx.out
      have lx := at7_lt Hx.out
      go_wp2_with fail
      clear fx0 fx1 fx2 fx3 fx4 fx5 fx6 lx
      obtain ⟨W8, hW⟩ : ∃ W, w7.alloc (.cells #[.int .i64 (q 0), .int .i64 (q 1), .int .i64 (q 2), .int .i64 (q 3), .int .i64 (q 4), .int .i64 (q 5), .int .i64 (q 6)] 65) = W := ⟨_, rfl⟩
      rw [hW]
      have hk : Below w7.heap.size w7 W8 := by rw [← hW]; exact alloc_keep _ _
      replace Hx := Lib.hid (at7_next Hx.out hk)
      replace Hy := Lib.hid (at7_next Hy.out hk)
      replace Hz := Lib.hid (at7_next Hz.out hk)
      replace Hm := Lib.hid (at7_next Hm.out hk)
      replace Hn := Lib.hid (at7_next Hn.out hk)
      replace Hp := Lib.hid (at7_next Hp.out hk)
      have Hq : Hid (at7 W8 w7.heap.size q) := Lib.hid (by rw [← hW]; exact at7_alloc w7 q 65)
      replace BW := Lib.hid (BW.out.trans (hk.mono BW.out.size))
      clear hW hk
      refine (K5.out _).mono ?_
      rintro e w9 ⟨rfl, hb⟩
      replace Hx := Lib.hid (at7_next Hx.out hb)
      replace Hy := Lib.hid (at7_next Hy.out hb)
      replace Hz := Lib.hid (at7_next Hz.out hb)
      replace Hm := Lib.hid (at7_next Hm.out hb)
      replace Hn := Lib.hid (at7_next Hn.out hb)
      replace Hp := Lib.hid (at7_next Hp.out hb)
      replace Hq := Lib.hid (at7_next Hq.out hb)
      replace BW := Lib.hid (BW.out.trans (hb.mono BW.out.size))
      clear hb
      obtain ⟨fm0, fm1, fm2, fm3, fm4, fm5, fm6⟩ : w9.cell? ⟨w1.heap.size, 0, none⟩ = some (.int .i64 (m 0)) ∧ w9.cell? ⟨w1.heap.size, 1, none⟩ = some (.int .i64 (m 1)) ∧ w9.cell? ⟨w1.heap.size, 2, none⟩ = some (.int .i64 (m 2)) ∧ w9.cell? ⟨w1.heap.size, 3, none⟩ = some (.int .i64 (m 3)) ∧ w9.cell? ⟨w1.heap.size, 4, none⟩ = some (.int .i64 (m 4)) ∧ w9.cell? ⟨w1.heap.size, 5, none⟩ = some (.int .i64 (m 5)) ∧ w9.cell? ⟨w1.heap.size, 6, none⟩ = some (.int .i64 (m 6)) := at7_open Hm.out
      have lm := at7_lt Hm.out
      obtain ⟨fy0, fy1, fy2, fy3, fy4, fy5, fy6⟩ : w9.cell? ⟨(g + 4), 0, none⟩ = some (.int .i64 (y 0)) ∧ w9.cell? ⟨(g + 4), 1, none⟩ = some (.int .i64 (y 1)) ∧ w9.cell? ⟨(g + 4), 2, none⟩ = some (.int .i64 (y 2)) ∧ w9.cell? ⟨(g + 4), 3, none⟩ = some (.int .i64 (y 3)) ∧ w9.cell? ⟨(g + 4), 4, none⟩ = some (.int .i64 (y 4)) ∧ w9.cell? ⟨(g + 4), 5, none⟩ = some (.int .i64 (y 5)) ∧ w9.cell? ⟨(g + 4), 6, none⟩ = some (.int .i64 (y 6)) := at7_open Hy.out
      have ly := at7_lt Hy.out
      go_wp2_with fail
      clear fm0 fm1 fm2 fm3 fm4 fm5 fm6 lm
      clear fy0 fy1 fy2 fy3 fy4 fy5 fy6 ly
      obtain ⟨W10, hW⟩ : ∃ W, w9.alloc (.cells #[.int .i64 (r 0), .int .i64 (r 1), .int .i64 (r 2), .int .i64 (r 3), .int .i64 (r 4), .int .i64 (r 5), .int .i64 (r 6)] 65) = W := ⟨_, rfl⟩
      rw [hW]
      have hk : Below w9.heap.size w9 W10 := by rw [← hW]; exact alloc_keep _ _
      replace Hx := Lib.hid (at7_next Hx.out hk)
      replace Hy := Lib.hid (at7_next Hy.out hk)
      replace Hz := Lib.hid (at7_next Hz.out hk)
      replace Hm := Lib.hid (at7_next Hm.out hk)
      replace Hn := Lib.hid (at7_next Hn.out hk)
      replace Hp := Lib.hid (at7_next Hp.out hk)
      replace Hq := Lib.hid (at7_next Hq.out hk)
      have Hr : Hid (at7 W10 w9.heap.size r) := Lib.hid (by rw [← hW]; exact at7_alloc w9 r 65)
      replace BW := Lib.hid (BW.out.trans (hk.mono BW.out.size))
      clear hW hk
      refine (K6.out _).mono ?_
      rintro e w11 ⟨rfl, hb⟩
      replace Hx := Lib.hid (at7_next Hx.out hb)
      replace Hy := Lib.hid (at7_next Hy.out hb)
      replace Hz := Lib.hid (at7_next Hz.out hb)
      replace Hm := Lib.hid (at7_next Hm.out hb)
      replace Hn := Lib.hid (at7_next Hn.out hb)
      replace Hp := Lib.hid (at7_next Hp.out hb)
      replace Hq := Lib.hid (at7_next Hq.out hb)
      replace Hr := Lib.hid (at7_next Hr.out hb)
      replace BW := Lib.hid (BW.out.trans (hb.mono BW.out.size))
      clear hb
      obtain ⟨fx0, fx1, fx2, fx3, fx4, fx5, fx6⟩ : w11.cell? ⟨(g + 3), 0, none⟩ = some (.int .i64 (x 0)) ∧ w11.cell? ⟨(g + 3), 1, none⟩ = some (.int .i64 (x 1)) ∧ w11.cell? ⟨(g + 3), 2, none⟩ = some (.int .i64 (x 2)) ∧ w11.cell? ⟨(g + 3), 3, none⟩ = some (.int .i64 (x 3)) ∧ w11.cell? ⟨(g + 3), 4, none⟩ = some (.int .i64 (x 4)) ∧ w11.cell? ⟨(g + 3), 5, none⟩ = some (.int .i64 (x 5)) ∧ w11.cell? ⟨(g + 3), 6, none⟩ = some (.int .i64 (x 6)) := at7_open Hx.out
      have lx := at7_lt Hx.out
      go_wp2_with fail
      clear fx0 fx1 fx2 fx3 fx4 fx5 fx6 lx
      obtain ⟨W12, hW⟩ : ∃ W, w11.alloc (.cells #[.int .i64 (d 0), .int .i64 (d 1), .int .i64 (d 2), .int .i64 (d 3), .int .i64 (d 4), .int .i64 (d 5), .int .i64 (d 6)] 65) = W := ⟨_, rfl⟩
      rw [hW]
      have hk : Below w11.heap.size w11 W12 := by rw [← hW]; exact alloc_keep _ _
      replace Hx := Lib.hid (at7_next Hx.out hk)
      replace Hy := Lib.hid (at7_next Hy.out hk)
      replace Hz := Lib.hid (at7_next Hz.out hk)
      replace Hm := Lib.hid (at7_next Hm.out hk)
      replace Hn := Lib.hid (at7_next Hn.out hk)
      replace Hp := Lib.hid (at7_next Hp.out hk)
      replace Hq := Lib.hid (at7_next Hq.out hk)
      replace Hr := Lib.hid (at7_next Hr.out hk)
      have Hd : Hid (at7 W12 w11.heap.size d) := Lib.hid (by rw [← hW]; exact at7_alloc w11 d 65)
      replace BW := Lib.hid (BW.out.trans (hk.mono BW.out.size))
      clear hW hk
      refine (K7.out _).mono ?_
      rintro e w13 ⟨rfl, hb⟩
      replace Hx := Lib.hid (at7_next Hx.out hb)
      replace Hy := Lib.hid (at7_next Hy.out hb)
      replace Hz := Lib.hid (at7_next Hz.out hb)
      replace Hm := Lib.hid (at7_next Hm.out hb)
      replace Hn := Lib.hid (at7_next Hn.out hb)
      replace Hp := Lib.hid (at7_next Hp.out hb)
      replace Hq := Lib.hid (at7_next Hq.out hb)
      replace Hr := Lib.hid (at7_next Hr.out hb)
      replace Hd := Lib.hid (at7_next Hd.out hb)
      replace BW := Lib.hid (BW.out.trans (hb.mono BW.out.size))
      clear hb
      obtain ⟨fx0, fx1, fx2, fx3, fx4, fx5, fx6⟩ : w13.cell? ⟨(g + 3), 0, none⟩ = some (.int .i64 (x 0)) ∧ w13.cell? ⟨(g + 3), 1, none⟩ = some (.int .i64 (x 1)) ∧ w13.cell? ⟨(g + 3), 2, none⟩ = some (.int .i64 (x 2)) ∧ w13.cell? ⟨(g + 3), 3, none⟩ = some (.int .i64 (x 3)) ∧ w13.cell? ⟨(g + 3), 4, none⟩ = some (.int .i64 (x 4)) ∧ w13.cell? ⟨(g + 3), 5, none⟩ = some (.int .i64 (x 5)) ∧ w13.cell? ⟨(g + 3), 6, none⟩ = some (.int .i64 (x 6)) := at7_open Hx.out
      have lx := at7_lt Hx.out
      go_wp2_with fail
      clear fx0 fx1 fx2 fx3 fx4 fx5 fx6 lx
      obtain ⟨W14, hW⟩ : ∃ W, w13.alloc (.cells #[.int .i64 (s 0), .int .i64 (s 1), .int .i64 (s 2), .int .i64 (s 3), .int .i64 (s 4), .int .i64 (s 5), .int .i64 (s 6)] 65) = W := ⟨_, rfl⟩
      rw [hW]
      have hk : Below w13.heap.size w13 W14 := by rw [← hW]; exact alloc_keep _ _
      replace Hx := Lib.hid (at7_next Hx.out hk)
      replace Hy := Lib.hid (at7_next Hy.out hk)
      replace Hz := Lib.hid (at7_next Hz.out hk)
      replace Hm := Lib.hid (at7_next Hm.out hk)
      replace Hn := Lib.hid (at7_next Hn.out hk)
      replace Hp := Lib.hid (at7_next Hp.out hk)
      replace Hq := Lib.hid (at7_next Hq.out hk)
      replace Hr := Lib.hid (at7_next Hr.out hk)
      replace Hd := Lib.hid (at7_next Hd.out hk)
      have Hs : Hid (at7 W14 w13.heap.size s) := Lib.hid (by rw [← hW]; exact at7_alloc w13 s 65)
      replace BW := Lib.hid (BW.out.trans (hk.mono BW.out.size))
      clear hW hk
      refine (K8.out _).mono ?_
      rintro e w15 ⟨rfl, hb⟩
      replace Hx := Lib.hid (at7_next Hx.out hb)
      replace Hy := Lib.hid (at7_next Hy.out hb)
      replace Hz := Lib.hid (at7_next Hz.out hb)
      replace Hm := Lib.hid (at7_next Hm.out hb)
      replace Hn := Lib.hid (at7_next Hn.out hb)
      replace Hp := Lib.hid (at7_next Hp.out hb)
      replace Hq := Lib.hid (at7_next Hq.out hb)
      replace Hr := Lib.hid (at7_next Hr.out hb)
      replace Hd := Lib.hid (at7_next Hd.out hb)
      replace Hs := Lib.hid (at7_next Hs.out hb)
      replace BW := Lib.hid (BW.out.trans (hb.mono BW.out.size))
      clear hb
      obtain ⟨fx0, fx1, fx2, fx3, fx4, fx5, fx6⟩ : w15.cell? ⟨(g + 3), 0, none⟩ = some (.int .i64 (x 0)) ∧ w15.cell? ⟨(g + 3), 1, none⟩ = some (.int .i64 (x 1)) ∧ w15.cell? ⟨(g + 3), 2, none⟩ = some (.int .i64 (x 2)) ∧ w15.cell? ⟨(g + 3), 3, none⟩ = some (.int .i64 (x 3)) ∧ w15.cell? ⟨(g + 3), 4, none⟩ = some (.int .i64 (x 4)) ∧ w15.cell? ⟨(g + 3), 5, none⟩ = some (.int .i64 (x 5)) ∧ w15.cell? ⟨(g + 3), 6, none⟩ = some (.int .i64 (x 6)) := at7_open Hx.out
      have lx := at7_lt Hx.out
      go_wp2_with fail
      clear fx0 fx1 fx2 fx3 fx4 fx5 fx6 lx
      obtain ⟨W16, hW⟩ : ∃ W, w15.alloc (.cells #[.int .i64 (t 0), .int .i64 (t 1), .int .i64 (t 2), .int .i64 (t 3), .int .i64 (t 4), .int .i64 (t 5), .int .i64 (t 6)] 65) = W := ⟨_, rfl⟩
      rw [hW]
      have hk : Below w15.heap.size w15 W16 := by rw [← hW]; exact alloc_keep _ _
      replace Hx := Lib.hid (at7_next Hx.out hk)
      replace Hy := Lib.hid (at7_next Hy.out hk)
      replace Hz := Lib.hid (at7_next Hz.out hk)
      replace Hm := Lib.hid (at7_next Hm.out hk)
      replace Hn := Lib.hid (at7_next Hn.out hk)
      replace Hp := Lib.hid (at7_next Hp.out hk)
      replace Hq := Lib.hid (at7_next Hq.out hk)
      replace Hr := Lib.hid (at7_next Hr.out hk)
      replace Hd := Lib.hid (at7_next Hd.out hk)
      replace Hs := Lib.hid (at7_next Hs.out hk)
      have Ht : Hid (at7 W16 w15.heap.size t) := Lib.hid (by rw [← hW]; exact at7_alloc w15 t 65)
      replace BW := Lib.hid (BW.out.trans (hk.mono BW.out.size))
      clear hW hk
      refine (K9.out _).mono ?_
      rintro e w17 ⟨rfl, hb⟩
      replace Hx := Lib.hid (at7_next Hx.out hb)
      replace Hy := Lib.hid (at7_next Hy.out hb)
      replace Hz := Lib.hid (at7_next Hz.out hb)
      replace Hm := Lib.hid (at7_next Hm.out hb)
      replace Hn := Lib.hid (at7_next Hn.out hb)
      replace Hp := Lib.hid (at7_next Hp.out hb)
      replace Hq := Lib.hid (at7_next Hq.out hb)
      replace Hr := Lib.hid (at7_next Hr.out hb)
      replace Hd := Lib.hid (at7_next Hd.out hb)
      replace Hs := Lib.hid (at7_next Hs.out hb)
      replace Ht := Lib.hid (at7_next Ht.out hb)
      replace BW := Lib.hid (BW.out.trans (hb.mono BW.out.size))
      clear hb
      obtain ⟨fs0, fs1, fs2, fs3, fs4, fs5, fs6⟩ : w17.cell? ⟨w13.heap.size, 0, none⟩ = some (.int .i64 (s 0)) ∧ w17.cell? ⟨w13.heap.size, 1, none⟩ = some (.int .i64 (s 1)) ∧ w17.cell? ⟨w13.heap.size, 2, none⟩ = some (.int .i64 (s 2)) ∧ w17.cell? ⟨w13.heap.size, 3, none⟩ = some (.int .i64 (s 3)) ∧ w17.cell? ⟨w13.heap.size, 4, none⟩ = some (.int .i64 (s 4)) ∧ w17.cell? ⟨w13.heap.size, 5, none⟩ = some (.int .i64 (s 5)) ∧ w17.cell? ⟨w13.heap.size, 6, none⟩ = some (.int .i64 (s 6)) := at7_open Hs.out
      have ls := at7_lt Hs.out
      obtain ⟨ft0, ft1, ft2, ft3, ft4, ft5, ft6⟩ : w17.cell? ⟨w15.heap.size, 0, none⟩ = some (.int .i64 (t 0)) ∧ w17.cell? ⟨w15.heap.size, 1, none⟩ = some (.int .i64 (t 1)) ∧ w17.cell? ⟨w15.heap.size, 2, none⟩ = some (.int .i64 (t 2)) ∧ w17.cell? ⟨w15.heap.size, 3, none⟩ = some (.int .i64 (t 3)) ∧ w17.cell? ⟨w15.heap.size, 4, none⟩ = some (.int .i64 (t 4)) ∧ w17.cell? ⟨w15.heap.size, 5, none⟩ = some (.int .i64 (t 5)) ∧ w17.cell? ⟨w15.heap.size, 6, none⟩ = some (.int .i64 (t 6)) := at7_open Ht.out
      have lt := at7_lt Ht.out
      go_wp2_with fail
      clear fs0 fs1 fs2 fs3 fs4 fs5 fs6 ls
      clear ft0 ft1 ft2 ft3 ft4 ft5 ft6 lt
      obtain ⟨W18, hW⟩ : ∃ W, w17.alloc (.cells #[.int .i64 (u 0), .int .i64 (u 1), .int .i64 (u 2), .int .i64 (u 3), .int .i64 (u 4), .int .i64 (u 5), .int .i64 (u 6)] 65) = W := ⟨_, rfl⟩
      rw [hW]
      have hk : Below w17.heap.size w17 W18 := by rw [← hW]; exact alloc_keep _ _
      replace Hx := Lib.hid (at7_next Hx.out hk)
      replace Hy := Lib.hid (at7_next Hy.out hk)
      replace Hz := Lib.hid (at7_next Hz.out hk)
      replace Hm := Lib.hid (at7_next Hm.out hk)
      replace Hn := Lib.hid (at7_next Hn.out hk)
      replace Hp := Lib.hid (at7_next Hp.out hk)
      replace Hq := Lib.hid (at7_next Hq.out hk)
      replace Hr := Lib.hid (at7_next Hr.out hk)
      replace Hd := Lib.hid (at7_next Hd.out hk)
      replace Hs := Lib.hid (at7_next Hs.out hk)
      replace Ht := Lib.hid (at7_next Ht.out hk)
      have Hu : Hid (at7 W18 w17.heap.size u) := Lib.hid (by rw [← hW]; exact at7_alloc w17 u 65)
      replace BW := Lib.hid (BW.out.trans (hk.mono BW.out.size))
      clear hW hk
      refine (K10.out _).mono ?_
      rintro e w19 ⟨rfl, hb⟩
      replace Hx := Lib.hid (at7_next Hx.out hb)
      replace Hy := Lib.hid (at7_next Hy.out hb)
      replace Hz := Lib.hid (at7_next Hz.out hb)
      replace Hm := Lib.hid (at7_next Hm.out hb)
      replace Hn := Lib.hid (at7_next Hn.out hb)
      replace Hp := Lib.hid (at7_next Hp.out hb)
      replace Hq := Lib.hid (at7_next Hq.out hb)
      replace Hr := Lib.hid (at7_next Hr.out hb)
      replace Hd := Lib.hid (at7_next Hd.out hb)
      replace Hs := Lib.hid (at7_next Hs.out hb)
      replace Ht := Lib.hid (at7_next Ht.out hb)
      replace Hu := Lib.hid (at7_next Hu.out hb)
      replace BW := Lib.hid (BW.out.trans (hb.mono BW.out.size))
      clear hb
      obtain ⟨fx0, fx1, fx2, fx3, fx4, fx5, fx6⟩ : w19.cell? ⟨(g + 3), 0, none⟩ = some (.int .i64 (x 0)) ∧ w19.cell? ⟨(g + 3), 1, none⟩ = some (.int .i64 (x 1)) ∧ w19.cell? ⟨(g + 3), 2, none⟩ = some (.int .i64 (x 2)) ∧ w19.cell? ⟨(g + 3), 3, none⟩ = some (.int .i64 (x 3)) ∧ w19.cell? ⟨(g + 3), 4, none⟩ = some (.int .i64 (x 4)) ∧ w19.cell? ⟨(g + 3), 5, none⟩ = some (.int .i64 (x 5)) ∧ w19.cell? ⟨(g + 3), 6, none⟩ = some (.int .i64 (x 6)) := at7_open Hx.out
      have lx := at7_lt Hx.out
      go_wp2_with fail
      clear fx0 fx1 fx2 fx3 fx4 fx5 fx6 lx
      obtain ⟨W20, hW⟩ : ∃ W, w19.alloc (.cells #[.int .i64 (v 0), .int .i64 (v 1), .int .i64 (v 2), .int .i64 (v 3), .int .i64 (v 4), .int .i64 (v 5), .int .i64 (v 6)] 65) = W := ⟨_, rfl⟩
      rw [hW]
      have hk : Below w19.heap.size w19 W20 := by rw [← hW]; exact alloc_keep _ _
      replace Hx := Lib.hid (at7_next Hx.out hk)
      replace Hy := Lib.hid (at7_next Hy.out hk)
      replace Hz := Lib.hid (at7_next Hz.out hk)
      replace Hm := Lib.hid (at7_next Hm.out hk)
      replace Hn := Lib.hid (at7_next Hn.out hk)
      replace Hp := Lib.hid (at7_next Hp.out hk)
      replace Hq := Lib.hid (at7_next Hq.out hk)
      replace Hr := Lib.hid (at7_next Hr.out hk)
      replace Hd := Lib.hid (at7_next Hd.out hk)
      replace Hs := Lib.hid (at7_next Hs.out hk)
      replace Ht := Lib.hid (at7_next Ht.out hk)
      replace Hu := Lib.hid (at7_next Hu.out hk)
      have Hv : Hid (at7 W20 w19.heap.size v) := Lib.hid (by rw [← hW]; exact at7_alloc w19 v 65)
      replace BW := Lib.hid (BW.out.trans (hk.mono BW.out.size))
      clear hW hk
      refine (K11.out _).mono ?_
      rintro e w21 ⟨rfl, hb⟩
      replace Hx := Lib.hid (at7_next Hx.out hb)
      replace Hy := Lib.hid (at7_next Hy.out hb)
      replace Hz := Lib.hid (at7_next Hz.out hb)
      replace Hm := Lib.hid (at7_next Hm.out hb)
      replace Hn := Lib.hid (at7_next Hn.out hb)
      replace Hp := Lib.hid (at7_next Hp.out hb)
      replace Hq := Lib.hid (at7_next Hq.out hb)
      replace Hr := Lib.hid (at7_next Hr.out hb)
      replace Hd := Lib.hid (at7_next Hd.out hb)
      replace Hs := Lib.hid (at7_next Hs.out hb)
      replace Ht := Lib.hid (at7_next Ht.out hb)
      replace Hu := Lib.hid (at7_next Hu.out hb)
      replace Hv := Lib.hid (at7_next Hv.out hb)
      replace BW := Lib.hid (BW.out.trans (hb.mono BW.out.size))
      clear hb
      obtain ⟨fm0, fm1, fm2, fm3, fm4, fm5, fm6⟩ : w21.cell? ⟨w1.heap.size, 0, none⟩ = some (.int .i64 (m 0)) ∧ w21.cell? ⟨w1.heap.size, 1, none⟩ = some (.int .i64 (m 1)) ∧ w21.cell? ⟨w1.heap.size, 2, none⟩ = some (.int .i64 (m 2)) ∧ w21.cell? ⟨w1.heap.size, 3, none⟩ = some (.int .i64 (m 3)) ∧ w21.cell? ⟨w1.heap.size, 4, none⟩ = some (.int .i64 (m 4)) ∧ w21.cell? ⟨w1.heap.size, 5, none⟩ = some (.int .i64 (m 5)) ∧ w21.cell? ⟨w1.heap.size, 6, none⟩ = some (.int .i64 (m 6)) := at7_open Hm.out
      have lm := at7_lt Hm.out
      obtain ⟨fn0, fn1, fn2, fn3, fn4, fn5, fn6⟩ : w21.cell? ⟨w3.heap.size, 0, none⟩ = some (.int .i64 (n 0)) ∧ w21.cell? ⟨w3.heap.size, 1, none⟩ = some (.int .i64 (n 1)) ∧ w21.cell? ⟨w3.heap.size, 2, none⟩ = some (.int .i64 (n 2)) ∧ w21.cell? ⟨w3.heap.size, 3, none⟩ = some (.int .i64 (n 3)) ∧ w21.cell? ⟨w3.heap.size, 4, none⟩ = some (.int .i64 (n 4)) ∧ w21.cell? ⟨w3.heap.size, 5, none⟩ = some (.int .i64 (n 5)) ∧ w21.cell? ⟨w3.heap.size, 6, none⟩ = some (.int .i64 (n 6)) := at7_open Hn.out
      have ln := at7_lt Hn.out
      obtain ⟨fp0, fp1, fp2, fp3, fp4, fp5, fp6⟩ : w21.cell? ⟨w5.heap.size, 0, none⟩ = some (.int .i64 (p 0)) ∧ w21.cell? ⟨w5.heap.size, 1, none⟩ = some (.int .i64 (p 1)) ∧ w21.cell? ⟨w5.heap.size, 2, none⟩ = some (.int .i64 (p 2)) ∧ w21.cell? ⟨w5.heap.size, 3, none⟩ = some (.int .i64 (p 3)) ∧ w21.cell? ⟨w5.heap.size, 4, none⟩ = some (.int .i64 (p 4)) ∧ w21.cell? ⟨w5.heap.size, 5, none⟩ = some (.int .i64 (p 5)) ∧ w21.cell? ⟨w5.heap.size, 6, none⟩ = some (.int .i64 (p 6)) := at7_open Hp.out
      have lp := at7_lt Hp.out
      obtain ⟨fr0, fr1, fr2, fr3, fr4, fr5, fr6⟩ : w21.cell? ⟨w9.heap.size, 0, none⟩ = some (.int .i64 (r 0)) ∧ w21.cell? ⟨w9.heap.size, 1, none⟩ = some (.int .i64 (r 1)) ∧ w21.cell? ⟨w9.heap.size, 2, none⟩ = some (.int .i64 (r 2)) ∧ w21.cell? ⟨w9.heap.size, 3, none⟩ = some (.int .i64 (r 3)) ∧ w21.cell? ⟨w9.heap.size, 4, none⟩ = some (.int .i64 (r 4)) ∧ w21.cell? ⟨w9.heap.size, 5, none⟩ = some (.int .i64 (r 5)) ∧ w21.cell? ⟨w9.heap.size, 6, none⟩ = some (.int .i64 (r 6)) := at7_open Hr.out
      have lr := at7_lt Hr.out
      obtain ⟨fd0, fd1, fd2, fd3, fd4, fd5, fd6⟩ : w21.cell? ⟨w11.heap.size, 0, none⟩ = some (.int .i64 (d 0)) ∧ w21.cell? ⟨w11.heap.size, 1, none⟩ = some (.int .i64 (d 1)) ∧ w21.cell? ⟨w11.heap.size, 2, none⟩ = some (.int .i64 (d 2)) ∧ w21.cell? ⟨w11.heap.size, 3, none⟩ = some (.int .i64 (d 3)) ∧ w21.cell? ⟨w11.heap.size, 4, none⟩ = some (.int .i64 (d 4)) ∧ w21.cell? ⟨w11.heap.size, 5, none⟩ = some (.int .i64 (d 5)) ∧ w21.cell? ⟨w11.heap.size, 6, none⟩ = some (.int .i64 (d 6)) := at7_open Hd.out
      have ld := at7_lt Hd.out
      obtain ⟨fx0, fx1, fx2, fx3, fx4, fx5, fx6⟩ : w21.cell? ⟨(g + 3), 0, none⟩ = some (.int .i64 (x 0)) ∧ w21.cell? ⟨(g + 3), 1, none⟩ = some (.int .i64 (x 1)) ∧ w21.cell? ⟨(g + 3), 2, none⟩ = some (.int .i64 (x 2)) ∧ w21.cell? ⟨(g + 3), 3, none⟩ = some (.int .i64 (x 3)) ∧ w21.cell? ⟨(g + 3), 4, none⟩ = some (.int .i64 (x 4)) ∧ w21.cell? ⟨(g + 3), 5, none⟩ = some (.int .i64 (x 5)) ∧ w21.cell? ⟨(g + 3), 6, none⟩ = some (.int .i64 (x 6)) := at7_open Hx.out
      have lx := at7_lt Hx.out
      obtain ⟨fu0, fu1, fu2, fu3, fu4, fu5, fu6⟩ : w21.cell? ⟨w17.heap.size, 0, none⟩ = some (.int .i64 (u 0)) ∧ w21.cell? ⟨w17.heap.size, 1, none⟩ = some (.int .i64 (u 1)) ∧ w21.cell? ⟨w17.heap.size, 2, none⟩ = some (.int .i64 (u 2)) ∧ w21.cell? ⟨w17.heap.size, 3, none⟩ = some (.int .i64 (u 3)) ∧ w21.cell? ⟨w17.heap.size, 4, none⟩ = some (.int .i64 (u 4)) ∧ w21.cell? ⟨w17.heap.size, 5, none⟩ = some (.int .i64 (u 5)) ∧ w21.cell? ⟨w17.heap.size, 6, none⟩ = some (.int .i64 (u 6)) := at7_open Hu.out
      have lu := at7_lt Hu.out
      obtain ⟨fv0, fv1, fv2, fv3, fv4, fv5, fv6⟩ : w21.cell? ⟨w19.heap.size, 0, none⟩ = some (.int .i64 (v 0)) ∧ w21.cell? ⟨w19.heap.size, 1, none⟩ = some (.int .i64 (v 1)) ∧ w21.cell? ⟨w19.heap.size, 2, none⟩ = some (.int .i64 (v 2)) ∧ w21.cell? ⟨w19.heap.size, 3, none⟩ = some (.int .i64 (v 3)) ∧ w21.cell? ⟨w19.heap.size, 4, none⟩ = some (.int .i64 (v 4)) ∧ w21.cell? ⟨w19.heap.size, 5, none⟩ = some (.int .i64 (v 5)) ∧ w21.cell? ⟨w19.heap.size, 6, none⟩ = some (.int .i64 (v 6)) := at7_open Hv.out
      have lv := at7_lt Hv.out
      go_wp2_with fail
      clear fm0 fm1 fm2 fm3 fm4 fm5 fm6 lm
      clear fn0 fn1 fn2 fn3 fn4 fn5 fn6 ln
      clear fp0 fp1 fp2 fp3 fp4 fp5 fp6 lp
      clear fr0 fr1 fr2 fr3 fr4 fr5 fr6 lr
      clear fd0 fd1 fd2 fd3 fd4 fd5 fd6 ld
      clear fx0 fx1 fx2 fx3 fx4 fx5 fx6 lx
      clear fu0 fu1 fu2 fu3 fu4 fu5 fu6 lu
      clear fv0 fv1 fv2 fv3 fv4 fv5 fv6 lv
      obtain ⟨W22, hW⟩ : ∃ W, w21.alloc (.cells #[.int .i64 (o 0), .int .i64 (o 1), .int .i64 (o 2), .int .i64 (o 3), .int .i64 (o 4), .int .i64 (o 5), .int .i64 (o 6)] 65) = W := ⟨_, rfl⟩
      rw [hW]
      have hk : Below w21.heap.size w21 W22 := by rw [← hW]; exact alloc_keep _ _
      replace Hx := Lib.hid (at7_next Hx.out hk)
      replace Hy := Lib.hid (at7_next Hy.out hk)
      replace Hz := Lib.hid (at7_next Hz.out hk)
      replace Hm := Lib.hid (at7_next Hm.out hk)
      replace Hn := Lib.hid (at7_next Hn.out hk)
      replace Hp := Lib.hid (at7_next Hp.out hk)
      replace Hq := Lib.hid (at7_next Hq.out hk)
      replace Hr := Lib.hid (at7_next Hr.out hk)
      replace Hd := Lib.hid (at7_next Hd.out hk)
      replace Hs := Lib.hid (at7_next Hs.out hk)
      replace Ht := Lib.hid (at7_next Ht.out hk)
      replace Hu := Lib.hid (at7_next Hu.out hk)
      replace Hv := Lib.hid (at7_next Hv.out hk)
      have Ho : Hid (at7 W22 w21.heap.size o) := Lib.hid (by rw [← hW]; exact at7_alloc w21 o 65)
      replace BW := Lib.hid (BW.out.trans (hk.mono BW.out.size))
      clear hW hk
      refine (dimWakes_any _ (hG.below BW.out)).mono ?_
      rintro e w99 ⟨rfl, hb⟩
      replace BW := Lib.hid (BW.out.trans (hb.mono BW.out.size))
      clear hb
      go_wp2_with fail
      go_ret
      exact ⟨rfl, BW.out⟩
end Go.Proofs.YtcajdkncohcaeaaDoor
