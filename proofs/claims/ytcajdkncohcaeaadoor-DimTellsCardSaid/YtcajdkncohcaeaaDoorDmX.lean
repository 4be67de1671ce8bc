import Derived.Test.YtcajdkncohcaeaaDoorDmT
import Derived.Deep.RegionHeld3
namespace Go.Proofs.YtcajdkncohcaeaaDoor
set_option linter.unusedVariables false
set_option linter.unusedSimpArgs false
open Go.RowKit Go.Proofs.YtcajdkncohcaeaaDoorW.PrintWords Go.Proofs.YtcajdkncohcaeaaDoorW.PrintLast

set_option maxRecDepth 20000 in
set_option maxHeartbeats 8000000 in
theorem dimTells_any (a b : Nat → Int) (n : Int) (w : World) (ha : ∀ j, j < 7 → -9223372036854775808 ≤ a j ∧ a j ≤ 9223372036854775807) (hn : -9223372036854775808 ≤ n ∧ n ≤ 9223372036854775807) (hG : DimGlob w) :
    Calls Tryd.prog 11 #[dv a, dv b, .int .i64 n] w fun e w' => e = .returned (.bool true) ∧ Below w.heap.size w w' := by
  have BW := Lib.hid (Below.refl w.heap.size w)
  obtain ⟨⟨m, e1⟩, h1⟩ : ∃ r, mulD a b = r := ⟨_, rfl⟩
  obtain ⟨⟨q, e2⟩, h2⟩ : ∃ r, divD a b = r := ⟨_, rfl⟩
  obtain ⟨⟨p, e3⟩, h3⟩ : ∃ r, powD a n = r := ⟨_, rfl⟩
  obtain ⟨gd, hgd⟩ : ∃ r, goodD a = r := ⟨_, rfl⟩
  obtain ⟨ta, hta⟩ : ∃ r, textD a = r := ⟨_, rfl⟩
  have K1 : Hid (∀ w : World, Calls Tryd.prog 41 #[(.agg #[.int .i64 (a 0), .int .i64 (a 1), .int .i64 (a 2), .int .i64 (a 3), .int .i64 (a 4), .int .i64 (a 5), .int .i64 (a 6)]), (.agg #[.int .i64 (b 0), .int .i64 (b 1), .int .i64 (b 2), .int .i64 (b 3), .int .i64 (b 4), .int .i64 (b 5), .int .i64 (b 6)])] w fun x w' => x = .returned (.tuple #[(.agg #[.int .i64 (m 0), .int .i64 (m 1), .int .i64 (m 2), .int .i64 (m 3), .int .i64 (m 4), .int .i64 (m 5), .int .i64 (m 6)]), .int .i64 e1]) ∧ Below w.heap.size w w') := Lib.hid (fun w => dmul_at a b m e1 h1 w)
  have K2 : Hid (∀ w : World, Calls Tryd.prog 42 #[(.agg #[.int .i64 (a 0), .int .i64 (a 1), .int .i64 (a 2), .int .i64 (a 3), .int .i64 (a 4), .int .i64 (a 5), .int .i64 (a 6)]), (.agg #[.int .i64 (b 0), .int .i64 (b 1), .int .i64 (b 2), .int .i64 (b 3), .int .i64 (b 4), .int .i64 (b 5), .int .i64 (b 6)])] w fun x w' => x = .returned (.tuple #[(.agg #[.int .i64 (q 0), .int .i64 (q 1), .int .i64 (q 2), .int .i64 (q 3), .int .i64 (q 4), .int .i64 (q 5), .int .i64 (q 6)]), .int .i64 e2]) ∧ Below w.heap.size w w') := Lib.hid (fun w => ddiv_at a b q e2 h2 w)
  have K3 : Hid (∀ w : World, Calls Tryd.prog 43 #[(.agg #[.int .i64 (a 0), .int .i64 (a 1), .int .i64 (a 2), .int .i64 (a 3), .int .i64 (a 4), .int .i64 (a 5), .int .i64 (a 6)]), .int .i64 n] w fun x w' => x = .returned (.tuple #[(.agg #[.int .i64 (p 0), .int .i64 (p 1), .int .i64 (p 2), .int .i64 (p 3), .int .i64 (p 4), .int .i64 (p 5), .int .i64 (p 6)]), .int .i64 e3]) ∧ Below w.heap.size w w') := Lib.hid (fun w => dpow_at a p n e3 hn h3 w)
  have R1 : Hid (∀ w : World, Calls Tryd.prog 44 #[(.agg #[.int .i64 (a 0), .int .i64 (a 1), .int .i64 (a 2), .int .i64 (a 3), .int .i64 (a 4), .int .i64 (a 5), .int .i64 (a 6)]), (.agg #[.int .i64 (b 0), .int .i64 (b 1), .int .i64 (b 2), .int .i64 (b 3), .int .i64 (b 4), .int .i64 (b 5), .int .i64 (b 6)]), .int .i64 1] w fun x w' => x = .returned (.agg #[.int .i64 (m 0), .int .i64 (m 1), .int .i64 (m 2), .int .i64 (m 3), .int .i64 (m 4), .int .i64 (m 5), .int .i64 (m 6), .int .i64 e1]) ∧ Below w.heap.size w w') := Lib.hid (fun w => by have := rmul_any a b w; rwa [h1] at this)
  have R2 : Hid (∀ w : World, Calls Tryd.prog 44 #[(.agg #[.int .i64 (a 0), .int .i64 (a 1), .int .i64 (a 2), .int .i64 (a 3), .int .i64 (a 4), .int .i64 (a 5), .int .i64 (a 6)]), (.agg #[.int .i64 (b 0), .int .i64 (b 1), .int .i64 (b 2), .int .i64 (b 3), .int .i64 (b 4), .int .i64 (b 5), .int .i64 (b 6)]), .int .i64 (-1)] w fun x w' => x = .returned (.agg #[.int .i64 (q 0), .int .i64 (q 1), .int .i64 (q 2), .int .i64 (q 3), .int .i64 (q 4), .int .i64 (q 5), .int .i64 (q 6), .int .i64 e2]) ∧ Below w.heap.size w w') := Lib.hid (fun w => by have := rdiv_any a b w; rwa [h2] at this)
  have R3 : Hid (∀ w : World, Calls Tryd.prog 45 #[(.agg #[.int .i64 (a 0), .int .i64 (a 1), .int .i64 (a 2), .int .i64 (a 3), .int .i64 (a 4), .int .i64 (a 5), .int .i64 (a 6)]), .int .i64 n] w fun x w' => x = .returned (.agg #[.int .i64 (p 0), .int .i64 (p 1), .int .i64 (p 2), .int .i64 (p 3), .int .i64 (p 4), .int .i64 (p 5), .int .i64 (p 6), .int .i64 e3]) ∧ Below w.heap.size w w') := Lib.hid (fun w => by have := rpow_any a n hn w; rwa [h3] at this)
  have KG : Hid (∀ w : World, Calls Tryd.prog 46 #[(.agg #[.int .i64 (a 0), .int .i64 (a 1), .int .i64 (a 2), .int .i64 (a 3), .int .i64 (a 4), .int .i64 (a 5), .int .i64 (a 6)])] w fun x w' => x = .returned (.bool gd) ∧ Below w.heap.size w w') := Lib.hid (fun w => dgood_at a gd hgd w)
  have RG : Hid (∀ w : World, Calls Tryd.prog 47 #[(.agg #[.int .i64 (a 0), .int .i64 (a 1), .int .i64 (a 2), .int .i64 (a 3), .int .i64 (a 4), .int .i64 (a 5), .int .i64 (a 6)])] w fun x w' => x = .returned (.bool gd) ∧ Below w.heap.size w w') := Lib.hid (fun w => rgood_at a gd hgd w)
  have KT : Hid (∀ w : World, DimGlob w → Calls Tryd.prog 48 #[(.agg #[.int .i64 (a 0), .int .i64 (a 1), .int .i64 (a 2), .int .i64 (a 3), .int .i64 (a 4), .int .i64 (a 5), .int .i64 (a 6)])] w fun x w' => x = .returned (.string ta) ∧ Below w.heap.size w w') := Lib.hid (fun w hG => by have := dtext_any a w ha hG; rwa [hta] at this)
  have RT : Hid (∀ w : World, Calls Tryd.prog 49 #[(.agg #[.int .i64 (a 0), .int .i64 (a 1), .int .i64 (a 2), .int .i64 (a 3), .int .i64 (a 4), .int .i64 (a 5), .int .i64 (a 6)])] w fun x w' => x = .returned (.string ta) ∧ Below w.heap.size w w') := Lib.hid (fun w => by have := rtext_any ofText_any a w ha; rwa [hta] at this)
  have Q1 : Hid (∀ (d : Nat) (w : World), (Op.equalIn (d + 2) 65 (.agg #[.int .i64 (m 0), .int .i64 (m 1), .int .i64 (m 2), .int .i64 (m 3), .int .i64 (m 4), .int .i64 (m 5), .int .i64 (m 6)]) (.agg #[.int .i64 (m 0), .int .i64 (m 1), .int .i64 (m 2), .int .i64 (m 3), .int .i64 (m 4), .int .i64 (m 5), .int .i64 (m 6)])).run Tryd.prog w = .ok true w) := Lib.hid (fun d w => eqDim_at d w m m (fun _ _ => rfl))
  have Q2 : Hid (∀ (d : Nat) (w : World), (Op.equalIn (d + 2) 65 (.agg #[.int .i64 (q 0), .int .i64 (q 1), .int .i64 (q 2), .int .i64 (q 3), .int .i64 (q 4), .int .i64 (q 5), .int .i64 (q 6)]) (.agg #[.int .i64 (q 0), .int .i64 (q 1), .int .i64 (q 2), .int .i64 (q 3), .int .i64 (q 4), .int .i64 (q 5), .int .i64 (q 6)])).run Tryd.prog w = .ok true w) := Lib.hid (fun d w => eqDim_at d w q q (fun _ _ => rfl))
  have Q3 : Hid (∀ (d : Nat) (w : World), (Op.equalIn (d + 2) 65 (.agg #[.int .i64 (p 0), .int .i64 (p 1), .int .i64 (p 2), .int .i64 (p 3), .int .i64 (p 4), .int .i64 (p 5), .int .i64 (p 6)]) (.agg #[.int .i64 (p 0), .int .i64 (p 1), .int .i64 (p 2), .int .i64 (p 3), .int .i64 (p 4), .int .i64 (p 5), .int .i64 (p 6)])).run Tryd.prog w = .ok true w) := Lib.hid (fun d w => eqDim_at d w p p (fun _ _ => rfl))
  clear h1 h2 h3 hgd hta ha hn
  unfold dv
  go_enter Tryd.func11, Tryd.ntmps11
  go_wp2_with fail
  obtain ⟨V, hV⟩ : ∃ V, w.alloc (.cells #[.int .i64 (a 0), .int .i64 (a 1), .int .i64 (a 2), .int .i64 (a 3), .int .i64 (a 4), .int .i64 (a 5), .int .i64 (a 6)] 65) = V := ⟨_, rfl⟩
  rw [hV]
  have hs : V.heap.size = w.heap.size + 1 := by rw [← hV]; simp
  have Ha : Hid (at7 V w.heap.size a) := Lib.hid (by rw [← hV]; exact at7_alloc w a 65)
  replace BW : Hid (Below w.heap.size w V) := Lib.hid (by rw [← hV]; exact alloc_keep _ _)
  clear hV
  obtain ⟨W1, hW⟩ : ∃ W, V.alloc (.cells #[.int .i64 (b 0), .int .i64 (b 1), .int .i64 (b 2), .int .i64 (b 3), .int .i64 (b 4), .int .i64 (b 5), .int .i64 (b 6)] 65) = W := ⟨_, rfl⟩
  rw [hW]
  have hk : Below V.heap.size V W1 := by rw [← hW]; exact alloc_keep _ _
  replace Ha := Lib.hid (at7_next Ha.out hk)
  have Hb : Hid (at7 W1 V.heap.size b) := Lib.hid (by rw [← hW]; exact at7_alloc V b 65)
  replace BW := Lib.hid (BW.out.trans (hk.mono BW.out.size))
  clear hW hk
  rw [hs] at Hb
  refine (K1.out _).mono ?_
  rintro e w2 ⟨rfl, hb⟩
  replace Ha := Lib.hid (at7_next Ha.out hb)
  replace Hb := Lib.hid (at7_next Hb.out hb)
  replace BW := Lib.hid (BW.out.trans (hb.mono BW.out.size))
  clear hb
  obtain ⟨fa0, fa1, fa2, fa3, fa4, fa5, fa6⟩ : w2.cell? ⟨w.heap.size, 0, none⟩ = some (.int .i64 (a 0)) ∧ w2.cell? ⟨w.heap.size, 1, none⟩ = some (.int .i64 (a 1)) ∧ w2.cell? ⟨w.heap.size, 2, none⟩ = some (.int .i64 (a 2)) ∧ w2.cell? ⟨w.heap.size, 3, none⟩ = some (.int .i64 (a 3)) ∧ w2.cell? ⟨w.heap.size, 4, none⟩ = some (.int .i64 (a 4)) ∧ w2.cell? ⟨w.heap.size, 5, none⟩ = some (.int .i64 (a 5)) ∧ w2.cell? ⟨w.heap.size, 6, none⟩ = some (.int .i64 (a 6)) := at7_open Ha.out
  have la := at7_lt Ha.out
  obtain ⟨fb0, fb1, fb2, fb3, fb4, fb5, fb6⟩ : w2.cell? ⟨(w.heap.size + 1), 0, none⟩ = some (.int .i64 (b 0)) ∧ w2.cell? ⟨(w.heap.size + 1), 1, none⟩ = some (.int .i64 (b 1)) ∧ w2.cell? ⟨(w.heap.size + 1), 2, none⟩ = some (.int .i64 (b 2)) ∧ w2.cell? ⟨(w.heap.size + 1), 3, none⟩ = some (.int .i64 (b 3)) ∧ w2.cell? ⟨(w.heap.size + 1), 4, none⟩ = some (.int .i64 (b 4)) ∧ w2.cell? ⟨(w.heap.size + 1), 5, none⟩ = some (.int .i64 (b 5)) ∧ w2.cell? ⟨(w.heap.size + 1), 6, none⟩ = some (.int .i64 (b 6)) := at7_open Hb.out
  have lb := at7_lt Hb.out
  go_wp2_with fail
  clear fa0 fa1 fa2 fa3 fa4 fa5 fa6 la
  clear fb0 fb1 fb2 fb3 fb4 fb5 fb6 lb
  obtain ⟨W3, hW⟩ : ∃ W, w2.alloc (.cells #[.int .i64 (m 0), .int .i64 (m 1), .int .i64 (m 2), .int .i64 (m 3), .int .i64 (m 4), .int .i64 (m 5), .int .i64 (m 6)] 65) = W := ⟨_, rfl⟩
  rw [hW]
  have hk : Below w2.heap.size w2 W3 := by rw [← hW]; exact alloc_keep _ _
  replace Ha := Lib.hid (at7_next Ha.out hk)
  replace Hb := Lib.hid (at7_next Hb.out hk)
  have Hm : Hid (at7 W3 w2.heap.size m) := Lib.hid (by rw [← hW]; exact at7_alloc w2 m 65)
  replace BW := Lib.hid (BW.out.trans (hk.mono BW.out.size))
  clear hW hk
  refine (K2.out _).mono ?_
  rintro e w4 ⟨rfl, hb⟩
  replace Ha := Lib.hid (at7_next Ha.out hb)
  replace Hb := Lib.hid (at7_next Hb.out hb)
  replace Hm := Lib.hid (at7_next Hm.out hb)
  replace BW := Lib.hid (BW.out.trans (hb.mono BW.out.size))
  clear hb
  obtain ⟨fa0, fa1, fa2, fa3, fa4, fa5, fa6⟩ : w4.cell? ⟨w.heap.size, 0, none⟩ = some (.int .i64 (a 0)) ∧ w4.cell? ⟨w.heap.size, 1, none⟩ = some (.int .i64 (a 1)) ∧ w4.cell? ⟨w.heap.size, 2, none⟩ = some (.int .i64 (a 2)) ∧ w4.cell? ⟨w.heap.size, 3, none⟩ = some (.int .i64 (a 3)) ∧ w4.cell? ⟨w.heap.size, 4, none⟩ = some (.int .i64 (a 4)) ∧ w4.cell? ⟨w.heap.size, 5, none⟩ = some (.int .i64 (a 5)) ∧ w4.cell? ⟨w.heap.size, 6, none⟩ = some (.int .i64 (a 6)) := at7_open Ha.out
  have la := at7_lt Ha.out
  obtain ⟨fb0, fb1, fb2, fb3, fb4, fb5, fb6⟩ : w4.cell? ⟨(w.heap.size + 1), 0, none⟩ = some (.int .i64 (b 0)) ∧ w4.cell? ⟨(w.heap.size + 1), 1, none⟩ = some (.int .i64 (b 1)) ∧ w4.cell? ⟨(w.heap.size + 1), 2, none⟩ = some (.int .i64 (b 2)) ∧ w4.cell? ⟨(w.heap.size + 1), 3, none⟩ = some (.int .i64 (b 3)) ∧ w4.cell? ⟨(w.heap.size + 1), 4, none⟩ = some (.int .i64 (b 4)) ∧ w4.cell? ⟨(w.heap.size + 1), 5, none⟩ = some (.int .i64 (b 5)) ∧ w4.cell? ⟨(w.heap.size + 1), 6, none⟩ = some (.int .i64 (b 6)) := at7_open Hb.out
  have lb := at7_lt Hb.out
  go_wp2_with fail
  clear fa0 fa1 fa2 fa3 fa4 fa5 fa6 la
  clear fb0 fb1 fb2 fb3 fb4 fb5 fb6 lb
  obtain ⟨W5, hW⟩ : ∃ W, w4.alloc (.cells #[.int .i64 (q 0), .int .i64 (q 1), .int .i64 (q 2), .int .i64 (q 3), .int .i64 (q 4), .int .i64 (q 5), .int .i64 (q 6)] 65) = W := ⟨_, rfl⟩
  rw [hW]
  have hk : Below w4.heap.size w4 W5 := by rw [← hW]; exact alloc_keep _ _
  replace Ha := Lib.hid (at7_next Ha.out hk)
  replace Hb := Lib.hid (at7_next Hb.out hk)
  replace Hm := Lib.hid (at7_next Hm.out hk)
  have Hq : Hid (at7 W5 w4.heap.size q) := Lib.hid (by rw [← hW]; exact at7_alloc w4 q 65)
  replace BW := Lib.hid (BW.out.trans (hk.mono BW.out.size))
  clear hW hk
  refine (K3.out _).mono ?_
  rintro e w6 ⟨rfl, hb⟩
  replace Ha := Lib.hid (at7_next Ha.out hb)
  replace Hb := Lib.hid (at7_next Hb.out hb)
  replace Hm := Lib.hid (at7_next Hm.out hb)
  replace Hq := Lib.hid (at7_next Hq.out hb)
  replace BW := Lib.hid (BW.out.trans (hb.mono BW.out.size))
  clear hb
  go_wp2_with fail
  obtain ⟨W7, hW⟩ : ∃ W, w6.alloc (.cells #[.int .i64 (p 0), .int .i64 (p 1), .int .i64 (p 2), .int .i64 (p 3), .int .i64 (p 4), .int .i64 (p 5), .int .i64 (p 6)] 65) = W := ⟨_, rfl⟩
  rw [hW]
  have hk : Below w6.heap.size w6 W7 := by rw [← hW]; exact alloc_keep _ _
  replace Ha := Lib.hid (at7_next Ha.out hk)
  replace Hb := Lib.hid (at7_next Hb.out hk)
  replace Hm := Lib.hid (at7_next Hm.out hk)
  replace Hq := Lib.hid (at7_next Hq.out hk)
  have Hp : Hid (at7 W7 w6.heap.size p) := Lib.hid (by rw [← hW]; exact at7_alloc w6 p 65)
  replace BW := Lib.hid (BW.out.trans (hk.mono BW.out.size))
  clear hW hk
  obtain ⟨C, hC⟩ : ∃ C : Nat → Array Value, C = (fun k => match k with | 0 => gotC m e1 | 1 => gotC q e2 | _ => gotC p e3) := ⟨_, rfl⟩
  have hC0 : C 0 = gotC m e1 := by subst hC; rfl
  have hC1 : C 1 = gotC q e2 := by subst hC; rfl
  have hC2 : C 2 = gotC p e3 := by subst hC; rfl
  clear hC
  have HA7 := Lib.hid (show ∀ w' : World, Below W7.heap.size W7 w' → at7 w' w.heap.size a from fun w' h => at7_next Ha.out h)
  have HB7 := Lib.hid (show ∀ w' : World, Below W7.heap.size W7 w' → at7 w' (w.heap.size + 1) b from fun w' h => at7_next Hb.out h)
  refine start_ (n := 15) (S := fun w' => True) (ds := []) #[false, false, false, false, false, false, false, false, false, false, false, false, false, false, false] (by kernel_rfl) rfl rfl trivial (fun hHeld => ?_)
  refine inv_at (T := rtab .any (opsOf Tryd.f11 4)) (B := [0, 0, 3, 0, 0, 31, 0, 0, 255, 0, 0, 0, 4095, 8191, 16383]) [0, 1, 2, 3, 4, 5, 6, 7, 8, 9, 10, 11, 12, 13, 14] (fun a0_ bl a1 w' => ∃ G : Nat → Nat, a1 = putSel a0_ bl [(0, 34, (.agg #[.int .i64 (a 0), .int .i64 (a 1), .int .i64 (a 2), .int .i64 (a 3), .int .i64 (a 4), .int .i64 (a 5), .int .i64 (a 6)])), (1, 35, (.agg #[.int .i64 (b 0), .int .i64 (b 1), .int .i64 (b 2), .int .i64 (b 3), .int .i64 (b 4), .int .i64 (b 5), .int .i64 (b 6)])), (2, 36, (.agg #[.int .i64 (m 0), .int .i64 (m 1), .int .i64 (m 2), .int .i64 (m 3), .int .i64 (m 4), .int .i64 (m 5), .int .i64 (m 6), .int .i64 e1])), (3, 37, (.agg #[.int .i64 (a 0), .int .i64 (a 1), .int .i64 (a 2), .int .i64 (a 3), .int .i64 (a 4), .int .i64 (a 5), .int .i64 (a 6)])), (4, 38, (.agg #[.int .i64 (b 0), .int .i64 (b 1), .int .i64 (b 2), .int .i64 (b 3), .int .i64 (b 4), .int .i64 (b 5), .int .i64 (b 6)])), (5, 39, (.agg #[.int .i64 (q 0), .int .i64 (q 1), .int .i64 (q 2), .int .i64 (q 3), .int .i64 (q 4), .int .i64 (q 5), .int .i64 (q 6), .int .i64 e2])), (6, 40, (.agg #[.int .i64 (a 0), .int .i64 (a 1), .int .i64 (a 2), .int .i64 (a 3), .int .i64 (a 4), .int .i64 (a 5), .int .i64 (a 6)])), (7, 41, .int .i64 n), (8, 42, (.agg #[.int .i64 (p 0), .int .i64 (p 1), .int .i64 (p 2), .int .i64 (p 3), .int .i64 (p 4), .int .i64 (p 5), .int .i64 (p 6), .int .i64 e3])), (9, 13, .pointer (some ⟨G 0, 0, none⟩)), (10, 14, .pointer (some ⟨G 1, 0, none⟩)), (11, 15, .pointer (some ⟨G 2, 0, none⟩))] ∧ F4 W7 70 C (gotC zD 0) bl G w') (by kernel_rfl) (by kernel_rfl) (by kernel_rfl) (by kernel_rfl) ?_ ?_ ?_
  · exact ⟨fun _ => 0, by simp only [putSel, Bool.false_eq_true, if_false], F4.start _ _ _ _ _⟩
  · skip
    refine steps_cons ?_ ?_
    · rintro bl a1 w' ⟨G, ha, hF⟩ hb_ hon hoff
      refine ⟨_, rfl, fun K hK => ?_⟩
      have e3 : a1.tmps[3]? = some (.pointer (some ⟨w.heap.size, 0, none⟩)) := by rw [ha]; exact (putSel_off rfl).trans rfl
      have HF := Lib.hid hF
      have HK := hK
      have HPS := Lib.hid ha
      clear ha
      obtain ⟨x0, x1, x2, x3, x4, x5, x6⟩ := at7_open (HA7.out w' HF.out.1)
      refine value_ (w1 := w') (v := (.agg #[.int .i64 (a 0), .int .i64 (a 1), .int .i64 (a 2), .int .i64 (a 3), .int .i64 (a 4), .int .i64 (a 5), .int .i64 (a 6)])) (by rfl) rfl ?_ ?_
      · go_simp
        try rfl
      refine HK.out _ _ ⟨G, by rw [HPS.out]; exact putSel_upk 0 hb_ rfl rfl rfl, HF.out.keep (Below.refl _ _) (by omega)⟩
    refine steps_cons ?_ ?_
    · rintro bl a1 w' ⟨G, ha, hF⟩ hb_ hon hoff
      refine ⟨_, rfl, fun K hK => ?_⟩
      have e4 : a1.tmps[4]? = some (.pointer (some ⟨(w.heap.size + 1), 0, none⟩)) := by rw [ha]; exact (putSel_off rfl).trans rfl
      have HF := Lib.hid hF
      have HK := hK
      have HPS := Lib.hid ha
      clear ha
      obtain ⟨x0, x1, x2, x3, x4, x5, x6⟩ := at7_open (HB7.out w' HF.out.1)
      refine value_ (w1 := w') (v := (.agg #[.int .i64 (b 0), .int .i64 (b 1), .int .i64 (b 2), .int .i64 (b 3), .int .i64 (b 4), .int .i64 (b 5), .int .i64 (b 6)])) (by rfl) rfl ?_ ?_
      · go_simp
        try rfl
      refine HK.out _ _ ⟨G, by rw [HPS.out]; exact putSel_upk 1 hb_ rfl rfl rfl, HF.out.keep (Below.refl _ _) (by omega)⟩
    refine steps_cons ?_ ?_
    · rintro bl a1 w' ⟨G, ha, hF⟩ hb_ hon hoff
      refine ⟨_, rfl, fun K hK => ?_⟩
      have e34 : a1.tmps[34]? = some ((.agg #[.int .i64 (a 0), .int .i64 (a 1), .int .i64 (a 2), .int .i64 (a 3), .int .i64 (a 4), .int .i64 (a 5), .int .i64 (a 6)])) := by rw [ha]; exact putSel_on (e := (0, 34, (.agg #[.int .i64 (a 0), .int .i64 (a 1), .int .i64 (a 2), .int .i64 (a 3), .int .i64 (a 4), .int .i64 (a 5), .int .i64 (a 6)]))) 0 rfl rfl (hon 0 (by kernel_rfl)) rfl
      have e35 : a1.tmps[35]? = some ((.agg #[.int .i64 (b 0), .int .i64 (b 1), .int .i64 (b 2), .int .i64 (b 3), .int .i64 (b 4), .int .i64 (b 5), .int .i64 (b 6)])) := by rw [ha]; exact putSel_on (e := (1, 35, (.agg #[.int .i64 (b 0), .int .i64 (b 1), .int .i64 (b 2), .int .i64 (b 3), .int .i64 (b 4), .int .i64 (b 5), .int .i64 (b 6)]))) 1 rfl rfl (hon 1 (by kernel_rfl)) rfl
      have HF := Lib.hid hF
      have HK := hK
      have HPS := Lib.hid ha
      clear ha
      refine goes_ Tryd.func44 (by kernel_rfl) rfl #[(.agg #[.int .i64 (a 0), .int .i64 (a 1), .int .i64 (a 2), .int .i64 (a 3), .int .i64 (a 4), .int .i64 (a 5), .int .i64 (a 6)]), (.agg #[.int .i64 (b 0), .int .i64 (b 1), .int .i64 (b 2), .int .i64 (b 3), .int .i64 (b 4), .int .i64 (b 5), .int .i64 (b 6)]), .int .i64 1] (by rfl) rfl rfl (by first | (simp only [List.map_toArray, List.map_cons, List.map_nil, Act.eval, Array.getD_eq_getD_getElem?, Option.getD_some, e34, e35]; done) | (simp only [List.map_toArray, List.map_cons, List.map_nil, Act.eval, Array.getD_eq_getD_getElem?, Option.getD_some, e34, e35]; rfl)) ?_
      refine (R1.out _).mono ?_
      rintro e w1 ⟨rfl, hb1⟩
      refine ⟨_, rfl, ?_⟩
      refine HK.out _ _ ⟨G, by rw [HPS.out]; exact putSel_upk 2 hb_ rfl rfl rfl, HF.out.keep hb1 (by omega)⟩
    refine steps_cons ?_ ?_
    · rintro bl a1 w' ⟨G, ha, hF⟩ hb_ hon hoff
      refine ⟨_, rfl, fun K hK => ?_⟩
      have e3 : a1.tmps[3]? = some (.pointer (some ⟨w.heap.size, 0, none⟩)) := by rw [ha]; exact (putSel_off rfl).trans rfl
      have HF := Lib.hid hF
      have HK := hK
      have HPS := Lib.hid ha
      clear ha
      obtain ⟨x0, x1, x2, x3, x4, x5, x6⟩ := at7_open (HA7.out w' HF.out.1)
      refine value_ (w1 := w') (v := (.agg #[.int .i64 (a 0), .int .i64 (a 1), .int .i64 (a 2), .int .i64 (a 3), .int .i64 (a 4), .int .i64 (a 5), .int .i64 (a 6)])) (by rfl) rfl ?_ ?_
      · go_simp
        try rfl
      refine HK.out _ _ ⟨G, by rw [HPS.out]; exact putSel_upk 3 hb_ rfl rfl rfl, HF.out.keep (Below.refl _ _) (by omega)⟩
    refine steps_cons ?_ ?_
    · rintro bl a1 w' ⟨G, ha, hF⟩ hb_ hon hoff
      refine ⟨_, rfl, fun K hK => ?_⟩
      have e4 : a1.tmps[4]? = some (.pointer (some ⟨(w.heap.size + 1), 0, none⟩)) := by rw [ha]; exact (putSel_off rfl).trans rfl
      have HF := Lib.hid hF
      have HK := hK
      have HPS := Lib.hid ha
      clear ha
      obtain ⟨x0, x1, x2, x3, x4, x5, x6⟩ := at7_open (HB7.out w' HF.out.1)
      refine value_ (w1 := w') (v := (.agg #[.int .i64 (b 0), .int .i64 (b 1), .int .i64 (b 2), .int .i64 (b 3), .int .i64 (b 4), .int .i64 (b 5), .int .i64 (b 6)])) (by rfl) rfl ?_ ?_
      · go_simp
        try rfl
      refine HK.out _ _ ⟨G, by rw [HPS.out]; exact putSel_upk 4 hb_ rfl rfl rfl, HF.out.keep (Below.refl _ _) (by omega)⟩
    refine steps_cons ?_ ?_
    · rintro bl a1 w' ⟨G, ha, hF⟩ hb_ hon hoff
      refine ⟨_, rfl, fun K hK => ?_⟩
      have e37 : a1.tmps[37]? = some ((.agg #[.int .i64 (a 0), .int .i64 (a 1), .int .i64 (a 2), .int .i64 (a 3), .int .i64 (a 4), .int .i64 (a 5), .int .i64 (a 6)])) := by rw [ha]; exact putSel_on (e := (3, 37, (.agg #[.int .i64 (a 0), .int .i64 (a 1), .int .i64 (a 2), .int .i64 (a 3), .int .i64 (a 4), .int .i64 (a 5), .int .i64 (a 6)]))) 3 rfl rfl (hon 3 (by kernel_rfl)) rfl
      have e38 : a1.tmps[38]? = some ((.agg #[.int .i64 (b 0), .int .i64 (b 1), .int .i64 (b 2), .int .i64 (b 3), .int .i64 (b 4), .int .i64 (b 5), .int .i64 (b 6)])) := by rw [ha]; exact putSel_on (e := (4, 38, (.agg #[.int .i64 (b 0), .int .i64 (b 1), .int .i64 (b 2), .int .i64 (b 3), .int .i64 (b 4), .int .i64 (b 5), .int .i64 (b 6)]))) 4 rfl rfl (hon 4 (by kernel_rfl)) rfl
      have HF := Lib.hid hF
      have HK := hK
      have HPS := Lib.hid ha
      clear ha
      refine goes_ Tryd.func44 (by kernel_rfl) rfl #[(.agg #[.int .i64 (a 0), .int .i64 (a 1), .int .i64 (a 2), .int .i64 (a 3), .int .i64 (a 4), .int .i64 (a 5), .int .i64 (a 6)]), (.agg #[.int .i64 (b 0), .int .i64 (b 1), .int .i64 (b 2), .int .i64 (b 3), .int .i64 (b 4), .int .i64 (b 5), .int .i64 (b 6)]), .int .i64 (-1)] (by rfl) rfl rfl (by first | (simp only [List.map_toArray, List.map_cons, List.map_nil, Act.eval, Array.getD_eq_getD_getElem?, Option.getD_some, e37, e38]; done) | (simp only [List.map_toArray, List.map_cons, List.map_nil, Act.eval, Array.getD_eq_getD_getElem?, Option.getD_some, e37, e38]; rfl)) ?_
      refine (R2.out _).mono ?_
      rintro e w1 ⟨rfl, hb1⟩
      refine ⟨_, rfl, ?_⟩
      refine HK.out _ _ ⟨G, by rw [HPS.out]; exact putSel_upk 5 hb_ rfl rfl rfl, HF.out.keep hb1 (by omega)⟩
    refine steps_cons ?_ ?_
    · rintro bl a1 w' ⟨G, ha, hF⟩ hb_ hon hoff
      refine ⟨_, rfl, fun K hK => ?_⟩
      have e3 : a1.tmps[3]? = some (.pointer (some ⟨w.heap.size, 0, none⟩)) := by rw [ha]; exact (putSel_off rfl).trans rfl
      have HF := Lib.hid hF
      have HK := hK
      have HPS := Lib.hid ha
      clear ha
      obtain ⟨x0, x1, x2, x3, x4, x5, x6⟩ := at7_open (HA7.out w' HF.out.1)
      refine value_ (w1 := w') (v := (.agg #[.int .i64 (a 0), .int .i64 (a 1), .int .i64 (a 2), .int .i64 (a 3), .int .i64 (a 4), .int .i64 (a 5), .int .i64 (a 6)])) (by rfl) rfl ?_ ?_
      · go_simp
        try rfl
      refine HK.out _ _ ⟨G, by rw [HPS.out]; exact putSel_upk 6 hb_ rfl rfl rfl, HF.out.keep (Below.refl _ _) (by omega)⟩
    refine steps_cons ?_ ?_
    · rintro bl a1 w' ⟨G, ha, hF⟩ hb_ hon hoff
      refine ⟨_, rfl, fun K hK => ?_⟩
      have e2 : a1.tmps[2]? = some (.int .i64 n) := by rw [ha]; exact (putSel_off rfl).trans rfl
      have HF := Lib.hid hF
      have HK := hK
      have HPS := Lib.hid ha
      clear ha
      refine value_ (w1 := w') (v := .int .i64 n) (by rfl) rfl ?_ ?_
      · go_simp
        try rfl
      refine HK.out _ _ ⟨G, by rw [HPS.out]; exact putSel_upk 7 hb_ rfl rfl rfl, HF.out.keep (Below.refl _ _) (by omega)⟩
    refine steps_cons ?_ ?_
    · rintro bl a1 w' ⟨G, ha, hF⟩ hb_ hon hoff
      refine ⟨_, rfl, fun K hK => ?_⟩
      have e40 : a1.tmps[40]? = some ((.agg #[.int .i64 (a 0), .int .i64 (a 1), .int .i64 (a 2), .int .i64 (a 3), .int .i64 (a 4), .int .i64 (a 5), .int .i64 (a 6)])) := by rw [ha]; exact putSel_on (e := (6, 40, (.agg #[.int .i64 (a 0), .int .i64 (a 1), .int .i64 (a 2), .int .i64 (a 3), .int .i64 (a 4), .int .i64 (a 5), .int .i64 (a 6)]))) 6 rfl rfl (hon 6 (by kernel_rfl)) rfl
      have e41 : a1.tmps[41]? = some (.int .i64 n) := by rw [ha]; exact putSel_on (e := (7, 41, .int .i64 n)) 7 rfl rfl (hon 7 (by kernel_rfl)) rfl
      have HF := Lib.hid hF
      have HK := hK
      have HPS := Lib.hid ha
      clear ha
      refine goes_ Tryd.func45 (by kernel_rfl) rfl #[(.agg #[.int .i64 (a 0), .int .i64 (a 1), .int .i64 (a 2), .int .i64 (a 3), .int .i64 (a 4), .int .i64 (a 5), .int .i64 (a 6)]), .int .i64 n] (by rfl) rfl rfl (by first | (simp only [List.map_toArray, List.map_cons, List.map_nil, Act.eval, Array.getD_eq_getD_getElem?, Option.getD_some, e40, e41]; done) | (simp only [List.map_toArray, List.map_cons, List.map_nil, Act.eval, Array.getD_eq_getD_getElem?, Option.getD_some, e40, e41]; rfl)) ?_
      refine (R3.out _).mono ?_
      rintro e w1 ⟨rfl, hb1⟩
      refine ⟨_, rfl, ?_⟩
      refine HK.out _ _ ⟨G, by rw [HPS.out]; exact putSel_upk 8 hb_ rfl rfl rfl, HF.out.keep hb1 (by omega)⟩
    refine steps_cons ?_ ?_
    · rintro bl a1 w' ⟨G, ha, hF⟩ hb_ hon hoff
      refine ⟨_, rfl, fun K hK => ?_⟩
      have h12 := hoff 12 (by kernel_rfl)
      have HF := Lib.hid hF
      have HK := hK
      have HPS := Lib.hid ha
      clear ha
      refine value_ (w1 := w'.alloc (.cells (gotC zD 0) 70 (0, 0))) (v := .pointer (some ⟨w'.heap.size, 0, none⟩)) (by rfl) rfl ?_ ?_
      · go_simp
        try rfl
      refine HK.out _ _ ⟨(fun j => if j = 0 then w'.heap.size else G j), by rw [HPS.out]; exact putSel_upk 9 hb_ rfl rfl rfl, HF.out.alloc 0 (by omega) hb_ h12 (fun _ => rfl)⟩
    refine steps_cons ?_ ?_
    · rintro bl a1 w' ⟨G, ha, hF⟩ hb_ hon hoff
      refine ⟨_, rfl, fun K hK => ?_⟩
      have h12 := hoff 13 (by kernel_rfl)
      have HF := Lib.hid hF
      have HK := hK
      have HPS := Lib.hid ha
      clear ha
      refine value_ (w1 := w'.alloc (.cells (gotC zD 0) 70 (0, 0))) (v := .pointer (some ⟨w'.heap.size, 0, none⟩)) (by rfl) rfl ?_ ?_
      · go_simp
        try rfl
      refine HK.out _ _ ⟨(fun j => if j = 1 then w'.heap.size else G j), by rw [HPS.out]; exact putSel_upk 10 hb_ rfl rfl rfl, HF.out.alloc 1 (by omega) hb_ h12 (fun _ => rfl)⟩
    refine steps_cons ?_ ?_
    · rintro bl a1 w' ⟨G, ha, hF⟩ hb_ hon hoff
      refine ⟨_, rfl, fun K hK => ?_⟩
      have h12 := hoff 14 (by kernel_rfl)
      have HF := Lib.hid hF
      have HK := hK
      have HPS := Lib.hid ha
      clear ha
      refine value_ (w1 := w'.alloc (.cells (gotC zD 0) 70 (0, 0))) (v := .pointer (some ⟨w'.heap.size, 0, none⟩)) (by rfl) rfl ?_ ?_
      · go_simp
        try rfl
      refine HK.out _ _ ⟨(fun j => if j = 2 then w'.heap.size else G j), by rw [HPS.out]; exact putSel_upk 11 hb_ rfl rfl rfl, HF.out.alloc 2 (by omega) hb_ h12 (fun _ => rfl)⟩
    refine steps_cons ?_ ?_
    · rintro bl a1 w' ⟨G, ha, hF⟩ hb_ hon hoff
      refine ⟨_, rfl, fun K hK => ?_⟩
      have e13 : a1.tmps[13]? = some (.pointer (some ⟨G 0, 0, none⟩)) := by rw [ha]; exact putSel_on (e := (9, 13, .pointer (some ⟨G 0, 0, none⟩))) 9 rfl rfl (hon 9 (by kernel_rfl)) rfl
      have e36 : a1.tmps[36]? = some ((.agg #[.int .i64 (m 0), .int .i64 (m 1), .int .i64 (m 2), .int .i64 (m 3), .int .i64 (m 4), .int .i64 (m 5), .int .i64 (m 6), .int .i64 e1])) := by rw [ha]; exact putSel_on (e := (2, 36, (.agg #[.int .i64 (m 0), .int .i64 (m 1), .int .i64 (m 2), .int .i64 (m 3), .int .i64 (m 4), .int .i64 (m 5), .int .i64 (m 6), .int .i64 e1]))) 2 rfl rfl (hon 2 (by kernel_rfl)) rfl
      have h9 := hon 9 (by kernel_rfl)
      have HF := Lib.hid hF
      have HK := hK
      have HPS := Lib.hid ha
      clear ha
      obtain ⟨g1, g2, g3⟩ := HF.out.2 0 (by omega) h9
      rw [hb_, if_neg (by decide)] at g2
      obtain ⟨g, hgk⟩ : ∃ g, G 0 = g := ⟨_, rfl⟩
      rw [hgk] at g1 g2 e13
      have hz := got8 g2
      have hfz := fun j => blk_frozen g2 j
      obtain ⟨x0, x1, x2, x3, x4, x5, x6⟩ := at7_open hz.1
      have x7 := hz.2
      have f0 := hfz 0
      have f1 := hfz 1
      have f2 := hfz 2
      have f3 := hfz 3
      have f4 := hfz 4
      have f5 := hfz 5
      have f6 := hfz 6
      have f7 := hfz 7
      have G1 := Lib.hid g1
      have G2 := Lib.hid g2
      clear hz hfz g1 g2 g3
      refine skip_ (w1 := ((((((((w'.setCell ⟨g, 0, none⟩ (.int .i64 (m 0))).setCell ⟨g, 1, none⟩ (.int .i64 (m 1))).setCell ⟨g, 2, none⟩ (.int .i64 (m 2))).setCell ⟨g, 3, none⟩ (.int .i64 (m 3))).setCell ⟨g, 4, none⟩ (.int .i64 (m 4))).setCell ⟨g, 5, none⟩ (.int .i64 (m 5))).setCell ⟨g, 6, none⟩ (.int .i64 (m 6))).setCell ⟨g, 7, none⟩ (.int .i64 e1))) (by rfl) rfl ?_ ?_
      · go_simp
        try rfl
      refine HK.out _ _ ⟨G, by rw [HPS.out]; exact putSel_none (v := undef) rfl, HF.out.store 0 (by omega) h9 (by rw [hgk, hC0]; exact set8 G2.out) (fun x hx => set8_far (by rw [hgk] at hx; exact hx) _ _ _ _ _ _ _ _) (set8_below HF.out.1 G1.out _ _ _ _ _ _ _ _)⟩
    refine steps_cons ?_ ?_
    · rintro bl a1 w' ⟨G, ha, hF⟩ hb_ hon hoff
      refine ⟨_, rfl, fun K hK => ?_⟩
      have e14 : a1.tmps[14]? = some (.pointer (some ⟨G 1, 0, none⟩)) := by rw [ha]; exact putSel_on (e := (10, 14, .pointer (some ⟨G 1, 0, none⟩))) 10 rfl rfl (hon 10 (by kernel_rfl)) rfl
      have e39 : a1.tmps[39]? = some ((.agg #[.int .i64 (q 0), .int .i64 (q 1), .int .i64 (q 2), .int .i64 (q 3), .int .i64 (q 4), .int .i64 (q 5), .int .i64 (q 6), .int .i64 e2])) := by rw [ha]; exact putSel_on (e := (5, 39, (.agg #[.int .i64 (q 0), .int .i64 (q 1), .int .i64 (q 2), .int .i64 (q 3), .int .i64 (q 4), .int .i64 (q 5), .int .i64 (q 6), .int .i64 e2]))) 5 rfl rfl (hon 5 (by kernel_rfl)) rfl
      have h9 := hon 10 (by kernel_rfl)
      have HF := Lib.hid hF
      have HK := hK
      have HPS := Lib.hid ha
      clear ha
      obtain ⟨g1, g2, g3⟩ := HF.out.2 1 (by omega) h9
      rw [hb_, if_neg (by decide)] at g2
      obtain ⟨g, hgk⟩ : ∃ g, G 1 = g := ⟨_, rfl⟩
      rw [hgk] at g1 g2 e14
      have hz := got8 g2
      have hfz := fun j => blk_frozen g2 j
      obtain ⟨x0, x1, x2, x3, x4, x5, x6⟩ := at7_open hz.1
      have x7 := hz.2
      have f0 := hfz 0
      have f1 := hfz 1
      have f2 := hfz 2
      have f3 := hfz 3
      have f4 := hfz 4
      have f5 := hfz 5
      have f6 := hfz 6
      have f7 := hfz 7
      have G1 := Lib.hid g1
      have G2 := Lib.hid g2
      clear hz hfz g1 g2 g3
      refine skip_ (w1 := ((((((((w'.setCell ⟨g, 0, none⟩ (.int .i64 (q 0))).setCell ⟨g, 1, none⟩ (.int .i64 (q 1))).setCell ⟨g, 2, none⟩ (.int .i64 (q 2))).setCell ⟨g, 3, none⟩ (.int .i64 (q 3))).setCell ⟨g, 4, none⟩ (.int .i64 (q 4))).setCell ⟨g, 5, none⟩ (.int .i64 (q 5))).setCell ⟨g, 6, none⟩ (.int .i64 (q 6))).setCell ⟨g, 7, none⟩ (.int .i64 e2))) (by rfl) rfl ?_ ?_
      · go_simp
        try rfl
      refine HK.out _ _ ⟨G, by rw [HPS.out]; exact putSel_none (v := undef) rfl, HF.out.store 1 (by omega) h9 (by rw [hgk, hC1]; exact set8 G2.out) (fun x hx => set8_far (by rw [hgk] at hx; exact hx) _ _ _ _ _ _ _ _) (set8_below HF.out.1 G1.out _ _ _ _ _ _ _ _)⟩
    refine steps_cons ?_ ?_
    · rintro bl a1 w' ⟨G, ha, hF⟩ hb_ hon hoff
      refine ⟨_, rfl, fun K hK => ?_⟩
      have e15 : a1.tmps[15]? = some (.pointer (some ⟨G 2, 0, none⟩)) := by rw [ha]; exact putSel_on (e := (11, 15, .pointer (some ⟨G 2, 0, none⟩))) 11 rfl rfl (hon 11 (by kernel_rfl)) rfl
      have e42 : a1.tmps[42]? = some ((.agg #[.int .i64 (p 0), .int .i64 (p 1), .int .i64 (p 2), .int .i64 (p 3), .int .i64 (p 4), .int .i64 (p 5), .int .i64 (p 6), .int .i64 e3])) := by rw [ha]; exact putSel_on (e := (8, 42, (.agg #[.int .i64 (p 0), .int .i64 (p 1), .int .i64 (p 2), .int .i64 (p 3), .int .i64 (p 4), .int .i64 (p 5), .int .i64 (p 6), .int .i64 e3]))) 8 rfl rfl (hon 8 (by kernel_rfl)) rfl
      have h9 := hon 11 (by kernel_rfl)
      have HF := Lib.hid hF
      have HK := hK
      have HPS := Lib.hid ha
      clear ha
      obtain ⟨g1, g2, g3⟩ := HF.out.2 2 (by omega) h9
      rw [hb_, if_neg (by decide)] at g2
      obtain ⟨g, hgk⟩ : ∃ g, G 2 = g := ⟨_, rfl⟩
      rw [hgk] at g1 g2 e15
      have hz := got8 g2
      have hfz := fun j => blk_frozen g2 j
      obtain ⟨x0, x1, x2, x3, x4, x5, x6⟩ := at7_open hz.1
      have x7 := hz.2
      have f0 := hfz 0
      have f1 := hfz 1
      have f2 := hfz 2
      have f3 := hfz 3
      have f4 := hfz 4
      have f5 := hfz 5
      have f6 := hfz 6
      have f7 := hfz 7
      have G1 := Lib.hid g1
      have G2 := Lib.hid g2
      clear hz hfz g1 g2 g3
      refine skip_ (w1 := ((((((((w'.setCell ⟨g, 0, none⟩ (.int .i64 (p 0))).setCell ⟨g, 1, none⟩ (.int .i64 (p 1))).setCell ⟨g, 2, none⟩ (.int .i64 (p 2))).setCell ⟨g, 3, none⟩ (.int .i64 (p 3))).setCell ⟨g, 4, none⟩ (.int .i64 (p 4))).setCell ⟨g, 5, none⟩ (.int .i64 (p 5))).setCell ⟨g, 6, none⟩ (.int .i64 (p 6))).setCell ⟨g, 7, none⟩ (.int .i64 e3))) (by rfl) rfl ?_ ?_
      · go_simp
        try rfl
      refine HK.out _ _ ⟨G, by rw [HPS.out]; exact putSel_none (v := undef) rfl, HF.out.store 2 (by omega) h9 (by rw [hgk, hC2]; exact set8 G2.out) (fun x hx => set8_far (by rw [hgk] at hx; exact hx) _ _ _ _ _ _ _ _) (set8_below HF.out.1 G1.out _ _ _ _ _ _ _ _)⟩
    exact steps_nil
  · rintro bl a1 w' hall ⟨G, ha, hF⟩
    have hb0 := hall 0 (by kernel_rfl)
    have hb1 := hall 1 (by kernel_rfl)
    have hb2 := hall 2 (by kernel_rfl)
    have hb3 := hall 3 (by kernel_rfl)
    have hb4 := hall 4 (by kernel_rfl)
    have hb5 := hall 5 (by kernel_rfl)
    have hb6 := hall 6 (by kernel_rfl)
    have hb7 := hall 7 (by kernel_rfl)
    have hb8 := hall 8 (by kernel_rfl)
    have hb9 := hall 9 (by kernel_rfl)
    have hb10 := hall 10 (by kernel_rfl)
    have hb11 := hall 11 (by kernel_rfl)
    have hb12 := hall 12 (by kernel_rfl)
    have hb13 := hall 13 (by kernel_rfl)
    have hb14 := hall 14 (by kernel_rfl)
    subst ha
    simp only [putSel, hb0, hb1, hb2, hb3, hb4, hb5, hb6, hb7, hb8, hb9, hb10, hb11, if_true, Act.put, List.setIfInBounds_toArray, List.set_cons_zero, List.set_cons_succ]
    obtain ⟨hB0, hF2⟩ := hF
    obtain ⟨g00, g01, g02⟩ := hF2 0 (by omega) hb9
    obtain ⟨g10, g11, g12⟩ := hF2 1 (by omega) hb10
    obtain ⟨g20, g21, g22⟩ := hF2 2 (by omega) hb11
    rw [hb12, if_pos rfl, hC0] at g01
    rw [hb13, if_pos rfl, hC1] at g11
    rw [hb14, if_pos rfl, hC2] at g21
    obtain ⟨u0, hu0⟩ : ∃ u, G 0 = u := ⟨_, rfl⟩
    obtain ⟨u1, hu1⟩ : ∃ u, G 1 = u := ⟨_, rfl⟩
    obtain ⟨u2, hu2⟩ : ∃ u, G 2 = u := ⟨_, rfl⟩
    rw [hu0] at g01
    rw [hu1] at g11
    rw [hu2] at g21
    rw [hu0, hu1, hu2]
    have HX := Lib.hid (got8 g01)
    have HY := Lib.hid (got8 g11)
    have HZ := Lib.hid (got8 g21)
    have lx := blk_lt g01
    have ly := blk_lt g11
    have lz := blk_lt g21
    clear hall hb0 hb1 hb2 hb3 hb4 hb5 hb6 hb7 hb8 hb9 hb10 hb11 hb12 hb13 hb14 hF2 g00 g02 g10 g12 g20 g22 g01 g11 g21 hu0 hu1 hu2 hC0 hC1 hC2
    replace Ha := Lib.hid (at7_next Ha.out hB0)
    replace Hm := Lib.hid (at7_next Hm.out hB0)
    replace Hq := Lib.hid (at7_next Hq.out hB0)
    replace Hp := Lib.hid (at7_next Hp.out hB0)
    replace BW := Lib.hid (BW.out.trans (hB0.mono BW.out.size))
    clear hB0
    clear HA7 HB7 Hb
    have KS : Hid (∀ wz : World, Below w'.heap.size w' wz → (wz.cell? ⟨w.heap.size, 0, none⟩ = some (.int .i64 (a 0)) ∧ wz.cell? ⟨w.heap.size, 1, none⟩ = some (.int .i64 (a 1)) ∧ wz.cell? ⟨w.heap.size, 2, none⟩ = some (.int .i64 (a 2)) ∧ wz.cell? ⟨w.heap.size, 3, none⟩ = some (.int .i64 (a 3)) ∧ wz.cell? ⟨w.heap.size, 4, none⟩ = some (.int .i64 (a 4)) ∧ wz.cell? ⟨w.heap.size, 5, none⟩ = some (.int .i64 (a 5)) ∧ wz.cell? ⟨w.heap.size, 6, none⟩ = some (.int .i64 (a 6)) ∧ wz.cell? ⟨w2.heap.size, 0, none⟩ = some (.int .i64 (m 0)) ∧ wz.cell? ⟨w2.heap.size, 1, none⟩ = some (.int .i64 (m 1)) ∧ wz.cell? ⟨w2.heap.size, 2, none⟩ = some (.int .i64 (m 2)) ∧ wz.cell? ⟨w2.heap.size, 3, none⟩ = some (.int .i64 (m 3)) ∧ wz.cell? ⟨w2.heap.size, 4, none⟩ = some (.int .i64 (m 4)) ∧ wz.cell? ⟨w2.heap.size, 5, none⟩ = some (.int .i64 (m 5)) ∧ wz.cell? ⟨w2.heap.size, 6, none⟩ = some (.int .i64 (m 6)) ∧ wz.cell? ⟨w4.heap.size, 0, none⟩ = some (.int .i64 (q 0)) ∧ wz.cell? ⟨w4.heap.size, 1, none⟩ = some (.int .i64 (q 1)) ∧ wz.cell? ⟨w4.heap.size, 2, none⟩ = some (.int .i64 (q 2)) ∧ wz.cell? ⟨w4.heap.size, 3, none⟩ = some (.int .i64 (q 3)) ∧ wz.cell? ⟨w4.heap.size, 4, none⟩ = some (.int .i64 (q 4)) ∧ wz.cell? ⟨w4.heap.size, 5, none⟩ = some (.int .i64 (q 5)) ∧ wz.cell? ⟨w4.heap.size, 6, none⟩ = some (.int .i64 (q 6)) ∧ wz.cell? ⟨w6.heap.size, 0, none⟩ = some (.int .i64 (p 0)) ∧ wz.cell? ⟨w6.heap.size, 1, none⟩ = some (.int .i64 (p 1)) ∧ wz.cell? ⟨w6.heap.size, 2, none⟩ = some (.int .i64 (p 2)) ∧ wz.cell? ⟨w6.heap.size, 3, none⟩ = some (.int .i64 (p 3)) ∧ wz.cell? ⟨w6.heap.size, 4, none⟩ = some (.int .i64 (p 4)) ∧ wz.cell? ⟨w6.heap.size, 5, none⟩ = some (.int .i64 (p 5)) ∧ wz.cell? ⟨w6.heap.size, 6, none⟩ = some (.int .i64 (p 6)) ∧ wz.cell? ⟨u0, 0, none⟩ = some (.int .i64 (m 0)) ∧ wz.cell? ⟨u0, 1, none⟩ = some (.int .i64 (m 1)) ∧ wz.cell? ⟨u0, 2, none⟩ = some (.int .i64 (m 2)) ∧ wz.cell? ⟨u0, 3, none⟩ = some (.int .i64 (m 3)) ∧ wz.cell? ⟨u0, 4, none⟩ = some (.int .i64 (m 4)) ∧ wz.cell? ⟨u0, 5, none⟩ = some (.int .i64 (m 5)) ∧ wz.cell? ⟨u0, 6, none⟩ = some (.int .i64 (m 6)) ∧ wz.cell? ⟨u0, 7, none⟩ = some (.int .i64 e1) ∧ wz.cell? ⟨u1, 0, none⟩ = some (.int .i64 (q 0)) ∧ wz.cell? ⟨u1, 1, none⟩ = some (.int .i64 (q 1)) ∧ wz.cell? ⟨u1, 2, none⟩ = some (.int .i64 (q 2)) ∧ wz.cell? ⟨u1, 3, none⟩ = some (.int .i64 (q 3)) ∧ wz.cell? ⟨u1, 4, none⟩ = some (.int .i64 (q 4)) ∧ wz.cell? ⟨u1, 5, none⟩ = some (.int .i64 (q 5)) ∧ wz.cell? ⟨u1, 6, none⟩ = some (.int .i64 (q 6)) ∧ wz.cell? ⟨u1, 7, none⟩ = some (.int .i64 e2) ∧ wz.cell? ⟨u2, 0, none⟩ = some (.int .i64 (p 0)) ∧ wz.cell? ⟨u2, 1, none⟩ = some (.int .i64 (p 1)) ∧ wz.cell? ⟨u2, 2, none⟩ = some (.int .i64 (p 2)) ∧ wz.cell? ⟨u2, 3, none⟩ = some (.int .i64 (p 3)) ∧ wz.cell? ⟨u2, 4, none⟩ = some (.int .i64 (p 4)) ∧ wz.cell? ⟨u2, 5, none⟩ = some (.int .i64 (p 5)) ∧ wz.cell? ⟨u2, 6, none⟩ = some (.int .i64 (p 6)) ∧ wz.cell? ⟨u2, 7, none⟩ = some (.int .i64 e3) ∧ Below w'.heap.size w' wz)) := Lib.hid (fun wz h => by
      obtain ⟨a0_, a1_, a2_, a3_, a4_, a5_, a6_⟩ := at7_open (at7_next Ha.out h)
      obtain ⟨m0_, m1_, m2_, m3_, m4_, m5_, m6_⟩ := at7_open (at7_next Hm.out h)
      obtain ⟨q0_, q1_, q2_, q3_, q4_, q5_, q6_⟩ := at7_open (at7_next Hq.out h)
      obtain ⟨p0_, p1_, p2_, p3_, p4_, p5_, p6_⟩ := at7_open (at7_next Hp.out h)
      have tx := at8e_below HX.out h lx
      obtain ⟨x0_, x1_, x2_, x3_, x4_, x5_, x6_⟩ := at7_open tx.1
      have x7_ := tx.2
      have ty := at8e_below HY.out h ly
      obtain ⟨y0_, y1_, y2_, y3_, y4_, y5_, y6_⟩ := at7_open ty.1
      have y7_ := ty.2
      have tz := at8e_below HZ.out h lz
      obtain ⟨z0_, z1_, z2_, z3_, z4_, z5_, z6_⟩ := at7_open tz.1
      have z7_ := tz.2
      exact ⟨a0_, a1_, a2_, a3_, a4_, a5_, a6_, m0_, m1_, m2_, m3_, m4_, m5_, m6_, q0_, q1_, q2_, q3_, q4_, q5_, q6_, p0_, p1_, p2_, p3_, p4_, p5_, p6_, x0_, x1_, x2_, x3_, x4_, x5_, x6_, x7_, y0_, y1_, y2_, y3_, y4_, y5_, y6_, y7_, z0_, z1_, z2_, z3_, z4_, z5_, z6_, z7_, h⟩)
    clear Ha Hm Hq Hp HX HY HZ
    have GG : Hid (∀ wz : World, Below w'.heap.size w' wz → DimGlob wz) := Lib.hid (fun wz h => hG.below (BW.out.trans (h.mono BW.out.size)))
    have q1 := Q1.out
    have q2 := Q2.out
    have q3 := Q3.out
    clear hG lx ly lz K1 K2 K3 R1 R2 R3
    go_wp2_with fail
    have hB0 : Below w'.heap.size w' w'.drew := bl_drew (Below.refl _ _)
    go_region_held3 (fun wz => wz.cell? ⟨w.heap.size, 0, none⟩ = some (.int .i64 (a 0)) ∧ wz.cell? ⟨w.heap.size, 1, none⟩ = some (.int .i64 (a 1)) ∧ wz.cell? ⟨w.heap.size, 2, none⟩ = some (.int .i64 (a 2)) ∧ wz.cell? ⟨w.heap.size, 3, none⟩ = some (.int .i64 (a 3)) ∧ wz.cell? ⟨w.heap.size, 4, none⟩ = some (.int .i64 (a 4)) ∧ wz.cell? ⟨w.heap.size, 5, none⟩ = some (.int .i64 (a 5)) ∧ wz.cell? ⟨w.heap.size, 6, none⟩ = some (.int .i64 (a 6)) ∧ wz.cell? ⟨w2.heap.size, 0, none⟩ = some (.int .i64 (m 0)) ∧ wz.cell? ⟨w2.heap.size, 1, none⟩ = some (.int .i64 (m 1)) ∧ wz.cell? ⟨w2.heap.size, 2, none⟩ = some (.int .i64 (m 2)) ∧ wz.cell? ⟨w2.heap.size, 3, none⟩ = some (.int .i64 (m 3)) ∧ wz.cell? ⟨w2.heap.size, 4, none⟩ = some (.int .i64 (m 4)) ∧ wz.cell? ⟨w2.heap.size, 5, none⟩ = some (.int .i64 (m 5)) ∧ wz.cell? ⟨w2.heap.size, 6, none⟩ = some (.int .i64 (m 6)) ∧ wz.cell? ⟨w4.heap.size, 0, none⟩ = some (.int .i64 (q 0)) ∧ wz.cell? ⟨w4.heap.size, 1, none⟩ = some (.int .i64 (q 1)) ∧ wz.cell? ⟨w4.heap.size, 2, none⟩ = some (.int .i64 (q 2)) ∧ wz.cell? ⟨w4.heap.size, 3, none⟩ = some (.int .i64 (q 3)) ∧ wz.cell? ⟨w4.heap.size, 4, none⟩ = some (.int .i64 (q 4)) ∧ wz.cell? ⟨w4.heap.size, 5, none⟩ = some (.int .i64 (q 5)) ∧ wz.cell? ⟨w4.heap.size, 6, none⟩ = some (.int .i64 (q 6)) ∧ wz.cell? ⟨w6.heap.size, 0, none⟩ = some (.int .i64 (p 0)) ∧ wz.cell? ⟨w6.heap.size, 1, none⟩ = some (.int .i64 (p 1)) ∧ wz.cell? ⟨w6.heap.size, 2, none⟩ = some (.int .i64 (p 2)) ∧ wz.cell? ⟨w6.heap.size, 3, none⟩ = some (.int .i64 (p 3)) ∧ wz.cell? ⟨w6.heap.size, 4, none⟩ = some (.int .i64 (p 4)) ∧ wz.cell? ⟨w6.heap.size, 5, none⟩ = some (.int .i64 (p 5)) ∧ wz.cell? ⟨w6.heap.size, 6, none⟩ = some (.int .i64 (p 6)) ∧ wz.cell? ⟨u0, 0, none⟩ = some (.int .i64 (m 0)) ∧ wz.cell? ⟨u0, 1, none⟩ = some (.int .i64 (m 1)) ∧ wz.cell? ⟨u0, 2, none⟩ = some (.int .i64 (m 2)) ∧ wz.cell? ⟨u0, 3, none⟩ = some (.int .i64 (m 3)) ∧ wz.cell? ⟨u0, 4, none⟩ = some (.int .i64 (m 4)) ∧ wz.cell? ⟨u0, 5, none⟩ = some (.int .i64 (m 5)) ∧ wz.cell? ⟨u0, 6, none⟩ = some (.int .i64 (m 6)) ∧ wz.cell? ⟨u0, 7, none⟩ = some (.int .i64 e1) ∧ wz.cell? ⟨u1, 0, none⟩ = some (.int .i64 (q 0)) ∧ wz.cell? ⟨u1, 1, none⟩ = some (.int .i64 (q 1)) ∧ wz.cell? ⟨u1, 2, none⟩ = some (.int .i64 (q 2)) ∧ wz.cell? ⟨u1, 3, none⟩ = some (.int .i64 (q 3)) ∧ wz.cell? ⟨u1, 4, none⟩ = some (.int .i64 (q 4)) ∧ wz.cell? ⟨u1, 5, none⟩ = some (.int .i64 (q 5)) ∧ wz.cell? ⟨u1, 6, none⟩ = some (.int .i64 (q 6)) ∧ wz.cell? ⟨u1, 7, none⟩ = some (.int .i64 e2) ∧ wz.cell? ⟨u2, 0, none⟩ = some (.int .i64 (p 0)) ∧ wz.cell? ⟨u2, 1, none⟩ = some (.int .i64 (p 1)) ∧ wz.cell? ⟨u2, 2, none⟩ = some (.int .i64 (p 2)) ∧ wz.cell? ⟨u2, 3, none⟩ = some (.int .i64 (p 3)) ∧ wz.cell? ⟨u2, 4, none⟩ = some (.int .i64 (p 4)) ∧ wz.cell? ⟨u2, 5, none⟩ = some (.int .i64 (p 5)) ∧ wz.cell? ⟨u2, 6, none⟩ = some (.int .i64 (p 6)) ∧ wz.cell? ⟨u2, 7, none⟩ = some (.int .i64 e3) ∧ Below w'.heap.size w' wz) (first | exact KS.out _ (by assumption) | exact KS.out _ hB0)
      (first | (go_at_call 46; with_reducible refine (KG.out _).mono ?_; rintro e wa ⟨rfl, hb1⟩; have hB1 := bl_then hB0 hb1)
             | (go_at_call 47; with_reducible refine (RG.out _).mono ?_; rintro e wb ⟨rfl, hb2⟩; have hB2 := bl_then hB1 hb2)
             | (go_at_call 48; with_reducible refine (KT.out _ (GG.out _ (by assumption))).mono ?_; rintro e wc ⟨rfl, hb3⟩; have hB3 := bl_then hB2 hb3)
             | (go_at_call 49; with_reducible refine (RT.out _).mono ?_; rintro e wd ⟨rfl, hb4⟩; have hB4 := bl_then hB3 hb4)
             | (go_at_call 50; with_reducible refine (dimWakes_any _ (GG.out _ (by assumption))).mono ?_; rintro e we ⟨rfl, hb5⟩; have hB5 := bl_then hB4 hb5))
    go_wp2_with fail
    go_ret
    exact ⟨rfl, BW.out.trans (hB5.mono BW.out.size)⟩
end Go.Proofs.YtcajdkncohcaeaaDoor
