import Derived.Test.YtcajdkncohcaeaaDoorDmF
namespace Go.Proofs.YtcajdkncohcaeaaDoor
set_option linter.unusedVariables false
set_option linter.unusedSimpArgs false
open Go.RowKit Go.Proofs.YtcajdkncohcaeaaDoorW.PrintWords

theorem at7_lt {w : World} {b : Nat} {a : Nat → Int} (h : at7 w b a) : b < w.heap.size := World.block_lt_of_cell? _ _ (h 0 (by decide))
theorem at7_next {w w' : World} {b : Nat} {a : Nat → Int} (h : at7 w b a) (hB : Below w.heap.size w w') : at7 w' b a := at7_below h hB (at7_lt h)
def vD (x0 x1 x2 x3 x4 x5 x6 : Int) : Nat → Int
  | 0 => x0
  | 1 => x1
  | 2 => x2
  | 3 => x3
  | 4 => x4
  | 5 => x5
  | _ => x6
theorem dmul_at (a b r : Nat → Int) (e : Int) (h : mulD a b = (r, e)) (w : World) :
    Calls Tryd.prog 41 #[dv a, dv b] w fun x w' => x = .returned (.tuple #[dv r, .int .i64 e]) ∧ Below w.heap.size w w' := by
  have := dmul_any a b w
  rwa [h] at this
theorem ddiv_at (a b r : Nat → Int) (e : Int) (h : divD a b = (r, e)) (w : World) :
    Calls Tryd.prog 42 #[dv a, dv b] w fun x w' => x = .returned (.tuple #[dv r, .int .i64 e]) ∧ Below w.heap.size w w' := by
  have := ddiv_any a b w
  rwa [h] at this
theorem dpow_at (a r : Nat → Int) (n e : Int) (hn : -9223372036854775808 ≤ n ∧ n ≤ 9223372036854775807) (h : powD a n = (r, e)) (w : World) :
    Calls Tryd.prog 43 #[dv a, .int .i64 n] w fun x w' => x = .returned (.tuple #[dv r, .int .i64 e]) ∧ Below w.heap.size w w' := by
  have := dpow_any a n w hn
  rwa [h] at this
theorem told_good {a : Nat → Int} (h : goodD a = true) : toldD a = (a, 0) := by rw [toldD, if_pos h]

theorem wtext1 : textD (vD 1 1 (-2) 0 0 0 0) = ⟨#[109, 32, 107, 103, 32, 115, 94, 45, 50]⟩ := by kernel_rfl
theorem wtext2 : textD zD = ⟨#[49]⟩ := by kernel_rfl
set_option maxRecDepth 20000 in
set_option maxHeartbeats 4000000 in
theorem dimWakes_any (w : World) (hG : DimGlob w) :
    Calls Tryd.prog 50 #[] w fun e w' => e = .returned (.bool true) ∧ Below w.heap.size w w' := by
  have K1 : Hid (∀ w : World, Calls Tryd.prog 41 #[(.agg #[.int .i64 1, .int .i64 1, .int .i64 (-2), .int .i64 0, .int .i64 0, .int .i64 0, .int .i64 0]), (.agg #[.int .i64 1, .int .i64 0, .int .i64 0, .int .i64 0, .int .i64 0, .int .i64 0, .int .i64 0])] w fun x w' => x = .returned (.tuple #[(.agg #[.int .i64 2, .int .i64 1, .int .i64 (-2), .int .i64 0, .int .i64 0, .int .i64 0, .int .i64 0]), .int .i64 0]) ∧ Below w.heap.size w w') := Lib.hid (fun w => by
    have h := dmul_at (vD 1 1 (-2) 0 0 0 0) (vD 1 0 0 0 0 0 0) (addD (vD 1 1 (-2) 0 0 0 0) (vD 1 0 0 0 0 0 0)) 0 (by kernel_rfl) w
    rw [show dv (addD (vD 1 1 (-2) 0 0 0 0) (vD 1 0 0 0 0 0 0)) = (.agg #[.int .i64 2, .int .i64 1, .int .i64 (-2), .int .i64 0, .int .i64 0, .int .i64 0, .int .i64 0]) from by kernel_rfl] at h
    exact h)
  have K2 : Hid (∀ w : World, Calls Tryd.prog 43 #[(.agg #[.int .i64 1, .int .i64 1, .int .i64 (-2), .int .i64 0, .int .i64 0, .int .i64 0, .int .i64 0]), .int .i64 (-2)] w fun x w' => x = .returned (.tuple #[(.agg #[.int .i64 (-2), .int .i64 (-2), .int .i64 4, .int .i64 0, .int .i64 0, .int .i64 0, .int .i64 0]), .int .i64 0]) ∧ Below w.heap.size w w') := Lib.hid (fun w => dpow_at (vD 1 1 (-2) 0 0 0 0) (scD (vD 1 1 (-2) 0 0 0 0) (-2)) (-2) 0 (by decide) (by kernel_rfl) w)
  have K3 : Hid (∀ w : World, Calls Tryd.prog 43 #[(.agg #[.int .i64 1, .int .i64 1, .int .i64 (-2), .int .i64 0, .int .i64 0, .int .i64 0, .int .i64 0]), .int .i64 101] w fun x w' => x = .returned (.tuple #[(.agg #[.int .i64 0, .int .i64 0, .int .i64 0, .int .i64 0, .int .i64 0, .int .i64 0, .int .i64 0]), .int .i64 2]) ∧ Below w.heap.size w w') := Lib.hid (fun w => dpow_at (vD 1 1 (-2) 0 0 0 0) zD 101 2 (by decide) (by kernel_rfl) w)
  have K4 : Hid (∀ w : World, Calls Tryd.prog 42 #[(.agg #[.int .i64 201, .int .i64 0, .int .i64 0, .int .i64 0, .int .i64 0, .int .i64 0, .int .i64 0]), (.agg #[.int .i64 1, .int .i64 1, .int .i64 (-2), .int .i64 0, .int .i64 0, .int .i64 0, .int .i64 0])] w fun x w' => x = .returned (.tuple #[(.agg #[.int .i64 0, .int .i64 0, .int .i64 0, .int .i64 0, .int .i64 0, .int .i64 0, .int .i64 0]), .int .i64 1]) ∧ Below w.heap.size w w') := Lib.hid (fun w => ddiv_at (vD 201 0 0 0 0 0 0) (vD 1 1 (-2) 0 0 0 0) zD 1 (by kernel_rfl) w)
  have K5 : Hid (∀ w : World, DimGlob w → Calls Tryd.prog 48 #[(.agg #[.int .i64 1, .int .i64 1, .int .i64 (-2), .int .i64 0, .int .i64 0, .int .i64 0, .int .i64 0])] w fun x w' => x = .returned (.string ⟨#[109, 32, 107, 103, 32, 115, 94, 45, 50]⟩) ∧ Below w.heap.size w w') := Lib.hid (fun w hG => by
    have := dtext_any (vD 1 1 (-2) 0 0 0 0) w (fun j hj => by rcases below7 hj with h | h | h | h | h | h | h <;> subst h <;> decide) hG
    rw [wtext1] at this; exact this)
  have K6 : Hid (∀ w : World, DimGlob w → Calls Tryd.prog 48 #[(.agg #[.int .i64 0, .int .i64 0, .int .i64 0, .int .i64 0, .int .i64 0, .int .i64 0, .int .i64 0])] w fun x w' => x = .returned (.string ⟨#[49]⟩) ∧ Below w.heap.size w w') := Lib.hid (fun w hG => by
    have := dtext_any zD w (fun j hj => by unfold zD; decide) hG
    rw [wtext2] at this; exact this)
  have K7 : Hid (∀ w : World, Calls Tryd.prog 46 #[(.agg #[.int .i64 1, .int .i64 1, .int .i64 (-2), .int .i64 0, .int .i64 0, .int .i64 0, .int .i64 0])] w fun x w' => x = .returned (.bool true) ∧ Below w.heap.size w w') := Lib.hid (fun w => dgood_at (vD 1 1 (-2) 0 0 0 0) true (by kernel_rfl) w)
  have e1 : ∀ (d : Nat) (w : World), (Op.equalIn (d + 2) 65 (.agg #[.int .i64 2, .int .i64 1, .int .i64 (-2), .int .i64 0, .int .i64 0, .int .i64 0, .int .i64 0]) (.agg #[.int .i64 2, .int .i64 1, .int .i64 (-2), .int .i64 0, .int .i64 0, .int .i64 0, .int .i64 0])).run Tryd.prog w = .ok true w := fun d w => eqDim d w 2 2 1 1 (-2) (-2) 0 0 0 0 0 0 0 0
  have e2 : ∀ (d : Nat) (w : World), (Op.equalIn (d + 2) 65 (.agg #[.int .i64 (-2), .int .i64 (-2), .int .i64 4, .int .i64 0, .int .i64 0, .int .i64 0, .int .i64 0]) (.agg #[.int .i64 (-2), .int .i64 (-2), .int .i64 4, .int .i64 0, .int .i64 0, .int .i64 0, .int .i64 0])).run Tryd.prog w = .ok true w := fun d w => eqDim d w (-2) (-2) (-2) (-2) 4 4 0 0 0 0 0 0 0 0
  have BW := Lib.hid (Below.refl w.heap.size w)
  go_enter Tryd.func50, Tryd.ntmps50
  go_wp2_with fail
  obtain ⟨W1, hW⟩ : ∃ W, w.alloc (.cells #[.int .i64 1, .int .i64 1, .int .i64 (-2), .int .i64 0, .int .i64 0, .int .i64 0, .int .i64 0] 65) = W := ⟨_, rfl⟩
  rw [hW]
  have hk : Below w.heap.size w W1 := by rw [← hW]; exact alloc_keep _ _
  have Hn : Hid (at7 W1 w.heap.size (vD 1 1 (-2) 0 0 0 0)) := Lib.hid (by rw [← hW]; exact at7_alloc w (vD 1 1 (-2) 0 0 0 0) 65)
  replace BW := Lib.hid (BW.out.trans (hk.mono BW.out.size))
  clear hW hk
  refine (K1.out _).mono ?_
  rintro e w2 ⟨rfl, hb⟩
  replace Hn := Lib.hid (at7_next Hn.out hb)
  replace BW := Lib.hid (BW.out.trans (hb.mono BW.out.size))
  clear hb
  obtain ⟨fn0, fn1, fn2, fn3, fn4, fn5, fn6⟩ : w2.cell? ⟨w.heap.size, 0, none⟩ = some (.int .i64 1) ∧ w2.cell? ⟨w.heap.size, 1, none⟩ = some (.int .i64 1) ∧ w2.cell? ⟨w.heap.size, 2, none⟩ = some (.int .i64 (-2)) ∧ w2.cell? ⟨w.heap.size, 3, none⟩ = some (.int .i64 0) ∧ w2.cell? ⟨w.heap.size, 4, none⟩ = some (.int .i64 0) ∧ w2.cell? ⟨w.heap.size, 5, none⟩ = some (.int .i64 0) ∧ w2.cell? ⟨w.heap.size, 6, none⟩ = some (.int .i64 0) := at7_open Hn.out
  have ln := at7_lt Hn.out
  go_wp2_with fail
  clear fn0 fn1 fn2 fn3 fn4 fn5 fn6 ln
  obtain ⟨W3, hW⟩ : ∃ W, w2.alloc (.cells #[.int .i64 2, .int .i64 1, .int .i64 (-2), .int .i64 0, .int .i64 0, .int .i64 0, .int .i64 0] 65) = W := ⟨_, rfl⟩
  rw [hW]
  have hk : Below w2.heap.size w2 W3 := by rw [← hW]; exact alloc_keep _ _
  replace Hn := Lib.hid (at7_next Hn.out hk)
  have Ha : Hid (at7 W3 w2.heap.size (vD 2 1 (-2) 0 0 0 0)) := Lib.hid (by rw [← hW]; exact at7_alloc w2 (vD 2 1 (-2) 0 0 0 0) 65)
  replace BW := Lib.hid (BW.out.trans (hk.mono BW.out.size))
  clear hW hk
  refine (K2.out _).mono ?_
  rintro e w4 ⟨rfl, hb⟩
  replace Hn := Lib.hid (at7_next Hn.out hb)
  replace Ha := Lib.hid (at7_next Ha.out hb)
  replace BW := Lib.hid (BW.out.trans (hb.mono BW.out.size))
  clear hb
  obtain ⟨fn0, fn1, fn2, fn3, fn4, fn5, fn6⟩ : w4.cell? ⟨w.heap.size, 0, none⟩ = some (.int .i64 1) ∧ w4.cell? ⟨w.heap.size, 1, none⟩ = some (.int .i64 1) ∧ w4.cell? ⟨w.heap.size, 2, none⟩ = some (.int .i64 (-2)) ∧ w4.cell? ⟨w.heap.size, 3, none⟩ = some (.int .i64 0) ∧ w4.cell? ⟨w.heap.size, 4, none⟩ = some (.int .i64 0) ∧ w4.cell? ⟨w.heap.size, 5, none⟩ = some (.int .i64 0) ∧ w4.cell? ⟨w.heap.size, 6, none⟩ = some (.int .i64 0) := at7_open Hn.out
  have ln := at7_lt Hn.out
  go_wp2_with fail
  clear fn0 fn1 fn2 fn3 fn4 fn5 fn6 ln
  obtain ⟨W5, hW⟩ : ∃ W, w4.alloc (.cells #[.int .i64 (-2), .int .i64 (-2), .int .i64 4, .int .i64 0, .int .i64 0, .int .i64 0, .int .i64 0] 65) = W := ⟨_, rfl⟩
  rw [hW]
  have hk : Below w4.heap.size w4 W5 := by rw [← hW]; exact alloc_keep _ _
  replace Hn := Lib.hid (at7_next Hn.out hk)
  replace Ha := Lib.hid (at7_next Ha.out hk)
  have Hb : Hid (at7 W5 w4.heap.size (vD (-2) (-2) 4 0 0 0 0)) := Lib.hid (by rw [← hW]; exact at7_alloc w4 (vD (-2) (-2) 4 0 0 0 0) 65)
  replace BW := Lib.hid (BW.out.trans (hk.mono BW.out.size))
  clear hW hk
  refine (K3.out _).mono ?_
  rintro e w6 ⟨rfl, hb⟩
  replace Hn := Lib.hid (at7_next Hn.out hb)
  replace Ha := Lib.hid (at7_next Ha.out hb)
  replace Hb := Lib.hid (at7_next Hb.out hb)
  replace BW := Lib.hid (BW.out.trans (hb.mono BW.out.size))
  clear hb
  obtain ⟨fn0, fn1, fn2, fn3, fn4, fn5, fn6⟩ : w6.cell? ⟨w.heap.size, 0, none⟩ = some (.int .i64 1) ∧ w6.cell? ⟨w.heap.size, 1, none⟩ = some (.int .i64 1) ∧ w6.cell? ⟨w.heap.size, 2, none⟩ = some (.int .i64 (-2)) ∧ w6.cell? ⟨w.heap.size, 3, none⟩ = some (.int .i64 0) ∧ w6.cell? ⟨w.heap.size, 4, none⟩ = some (.int .i64 0) ∧ w6.cell? ⟨w.heap.size, 5, none⟩ = some (.int .i64 0) ∧ w6.cell? ⟨w.heap.size, 6, none⟩ = some (.int .i64 0) := at7_open Hn.out
  have ln := at7_lt Hn.out
  go_wp2_with fail
  clear fn0 fn1 fn2 fn3 fn4 fn5 fn6 ln
  obtain ⟨W7, hW⟩ : ∃ W, w6.alloc (.cells #[.int .i64 0, .int .i64 0, .int .i64 0, .int .i64 0, .int .i64 0, .int .i64 0, .int .i64 0] 65) = W := ⟨_, rfl⟩
  rw [hW]
  have hk : Below w6.heap.size w6 W7 := by rw [← hW]; exact alloc_keep _ _
  replace Hn := Lib.hid (at7_next Hn.out hk)
  replace Ha := Lib.hid (at7_next Ha.out hk)
  replace Hb := Lib.hid (at7_next Hb.out hk)
  have Hc : Hid (at7 W7 w6.heap.size zD) := Lib.hid (by rw [← hW]; exact at7_alloc w6 zD 65)
  replace BW := Lib.hid (BW.out.trans (hk.mono BW.out.size))
  clear hW hk
  refine (K4.out _).mono ?_
  rintro e w8 ⟨rfl, hb⟩
  replace Hn := Lib.hid (at7_next Hn.out hb)
  replace Ha := Lib.hid (at7_next Ha.out hb)
  replace Hb := Lib.hid (at7_next Hb.out hb)
  replace Hc := Lib.hid (at7_next Hc.out hb)
  replace BW := Lib.hid (BW.out.trans (hb.mono BW.out.size))
  clear hb
  obtain ⟨fn0, fn1, fn2, fn3, fn4, fn5, fn6⟩ : w8.cell? ⟨w.heap.size, 0, none⟩ = some (.int .i64 1) ∧ w8.cell? ⟨w.heap.size, 1, none⟩ = some (.int .i64 1) ∧ w8.cell? ⟨w.heap.size, 2, none⟩ = some (.int .i64 (-2)) ∧ w8.cell? ⟨w.heap.size, 3, none⟩ = some (.int .i64 0) ∧ w8.cell? ⟨w.heap.size, 4, none⟩ = some (.int .i64 0) ∧ w8.cell? ⟨w.heap.size, 5, none⟩ = some (.int .i64 0) ∧ w8.cell? ⟨w.heap.size, 6, none⟩ = some (.int .i64 0) := at7_open Hn.out
  have ln := at7_lt Hn.out
  obtain ⟨fa0, fa1, fa2, fa3, fa4, fa5, fa6⟩ : w8.cell? ⟨w2.heap.size, 0, none⟩ = some (.int .i64 2) ∧ w8.cell? ⟨w2.heap.size, 1, none⟩ = some (.int .i64 1) ∧ w8.cell? ⟨w2.heap.size, 2, none⟩ = some (.int .i64 (-2)) ∧ w8.cell? ⟨w2.heap.size, 3, none⟩ = some (.int .i64 0) ∧ w8.cell? ⟨w2.heap.size, 4, none⟩ = some (.int .i64 0) ∧ w8.cell? ⟨w2.heap.size, 5, none⟩ = some (.int .i64 0) ∧ w8.cell? ⟨w2.heap.size, 6, none⟩ = some (.int .i64 0) := at7_open Ha.out
  have la := at7_lt Ha.out
  obtain ⟨fb0, fb1, fb2, fb3, fb4, fb5, fb6⟩ : w8.cell? ⟨w4.heap.size, 0, none⟩ = some (.int .i64 (-2)) ∧ w8.cell? ⟨w4.heap.size, 1, none⟩ = some (.int .i64 (-2)) ∧ w8.cell? ⟨w4.heap.size, 2, none⟩ = some (.int .i64 4) ∧ w8.cell? ⟨w4.heap.size, 3, none⟩ = some (.int .i64 0) ∧ w8.cell? ⟨w4.heap.size, 4, none⟩ = some (.int .i64 0) ∧ w8.cell? ⟨w4.heap.size, 5, none⟩ = some (.int .i64 0) ∧ w8.cell? ⟨w4.heap.size, 6, none⟩ = some (.int .i64 0) := at7_open Hb.out
  have lb := at7_lt Hb.out
  go_wp2_with fail
  clear fn0 fn1 fn2 fn3 fn4 fn5 fn6 ln
  clear fa0 fa1 fa2 fa3 fa4 fa5 fa6 la
  clear fb0 fb1 fb2 fb3 fb4 fb5 fb6 lb
  obtain ⟨W9, hW⟩ : ∃ W, w8.alloc (.cells #[.int .i64 0, .int .i64 0, .int .i64 0, .int .i64 0, .int .i64 0, .int .i64 0, .int .i64 0] 65) = W := ⟨_, rfl⟩
  rw [hW]
  have hk : Below w8.heap.size w8 W9 := by rw [← hW]; exact alloc_keep _ _
  replace Hn := Lib.hid (at7_next Hn.out hk)
  replace Ha := Lib.hid (at7_next Ha.out hk)
  replace Hb := Lib.hid (at7_next Hb.out hk)
  replace Hc := Lib.hid (at7_next Hc.out hk)
  have Hd : Hid (at7 W9 w8.heap.size zD) := Lib.hid (by rw [← hW]; exact at7_alloc w8 zD 65)
  replace BW := Lib.hid (BW.out.trans (hk.mono BW.out.size))
  clear hW hk
  refine (K5.out _ (hG.below BW.out)).mono ?_
  rintro e w10 ⟨rfl, hb⟩
  replace Hn := Lib.hid (at7_next Hn.out hb)
  replace Ha := Lib.hid (at7_next Ha.out hb)
  replace Hb := Lib.hid (at7_next Hb.out hb)
  replace Hc := Lib.hid (at7_next Hc.out hb)
  replace Hd := Lib.hid (at7_next Hd.out hb)
  replace BW := Lib.hid (BW.out.trans (hb.mono BW.out.size))
  clear hb
  go_wp2_with fail
  refine (K6.out _ (hG.below BW.out)).mono ?_
  rintro e w11 ⟨rfl, hb⟩
  replace Hn := Lib.hid (at7_next Hn.out hb)
  replace Ha := Lib.hid (at7_next Ha.out hb)
  replace Hb := Lib.hid (at7_next Hb.out hb)
  replace Hc := Lib.hid (at7_next Hc.out hb)
  replace Hd := Lib.hid (at7_next Hd.out hb)
  replace BW := Lib.hid (BW.out.trans (hb.mono BW.out.size))
  clear hb
  obtain ⟨fn0, fn1, fn2, fn3, fn4, fn5, fn6⟩ : w11.cell? ⟨w.heap.size, 0, none⟩ = some (.int .i64 1) ∧ w11.cell? ⟨w.heap.size, 1, none⟩ = some (.int .i64 1) ∧ w11.cell? ⟨w.heap.size, 2, none⟩ = some (.int .i64 (-2)) ∧ w11.cell? ⟨w.heap.size, 3, none⟩ = some (.int .i64 0) ∧ w11.cell? ⟨w.heap.size, 4, none⟩ = some (.int .i64 0) ∧ w11.cell? ⟨w.heap.size, 5, none⟩ = some (.int .i64 0) ∧ w11.cell? ⟨w.heap.size, 6, none⟩ = some (.int .i64 0) := at7_open Hn.out
  have ln := at7_lt Hn.out
  go_wp2_with fail
  clear fn0 fn1 fn2 fn3 fn4 fn5 fn6 ln
  refine (K7.out _).mono ?_
  rintro e w12 ⟨rfl, hb⟩
  replace Hn := Lib.hid (at7_next Hn.out hb)
  replace Ha := Lib.hid (at7_next Ha.out hb)
  replace Hb := Lib.hid (at7_next Hb.out hb)
  replace Hc := Lib.hid (at7_next Hc.out hb)
  replace Hd := Lib.hid (at7_next Hd.out hb)
  replace BW := Lib.hid (BW.out.trans (hb.mono BW.out.size))
  clear hb
  go_wp2_with fail
  go_ret
  exact ⟨rfl, BW.out⟩
end Go.Proofs.YtcajdkncohcaeaaDoor
