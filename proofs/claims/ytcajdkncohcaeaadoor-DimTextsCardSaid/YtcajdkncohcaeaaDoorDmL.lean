import Derived.Test.YtcajdkncohcaeaaDoorDmK
import Derived.Deep.RegionHeld3
namespace Go.Proofs.YtcajdkncohcaeaaDoor
set_option linter.unusedVariables false
set_option linter.unusedSimpArgs false
open Go.RowKit Go.Proofs.YtcajdkncohcaeaaDoorW.PrintWords

set_option maxRecDepth 20000 in
set_option maxHeartbeats 4000000 in
theorem dimTexts_any (a b : Nat → Int) (w : World) (ha : ∀ j, j < 7 → -9223372036854775808 ≤ a j ∧ a j ≤ 9223372036854775807) (hb : ∀ j, j < 7 → -9223372036854775808 ≤ b j ∧ b j ≤ 9223372036854775807) (hG : DimGlob w) :
    Calls Tryd.prog 13 #[dv a, dv b] w fun e w' => e = .returned (.bool true) ∧ Below w.heap.size w w' := by
  obtain ⟨W, hW⟩ : ∃ W, (w.alloc (.cells #[.int .i64 (a 0), .int .i64 (a 1), .int .i64 (a 2), .int .i64 (a 3), .int .i64 (a 4), .int .i64 (a 5), .int .i64 (a 6)] 65)).alloc (.cells #[.int .i64 (b 0), .int .i64 (b 1), .int .i64 (b 2), .int .i64 (b 3), .int .i64 (b 4), .int .i64 (b 5), .int .i64 (b 6)] 65) = W := ⟨_, rfl⟩
  obtain ⟨g, hg⟩ : ∃ g, w.heap.size = g := ⟨_, rfl⟩
  have s1 : (w.alloc (.cells #[.int .i64 (a 0), .int .i64 (a 1), .int .i64 (a 2), .int .i64 (a 3), .int .i64 (a 4), .int .i64 (a 5), .int .i64 (a 6)] 65)).heap.size = g + 1 := by rw [← hg]; simp
  have s3 : W.heap.size = g + 2 := by rw [← hW, ← hg]; simp
  have hBW : Below w.heap.size w W := by rw [← hW]; exact bl_alloc (bl_alloc (Below.refl _ _) _) _
  have hb3 := alloc_keep (w.alloc (.cells #[.int .i64 (a 0), .int .i64 (a 1), .int .i64 (a 2), .int .i64 (a 3), .int .i64 (a 4), .int .i64 (a 5), .int .i64 (a 6)] 65)) (.cells #[.int .i64 (b 0), .int .i64 (b 1), .int .i64 (b 2), .int .i64 (b 3), .int .i64 (b 4), .int .i64 (b 5), .int .i64 (b 6)] 65)
  rw [s1, hW] at hb3
  have HA : Hid (at7 W g a) := Lib.hid (at7_below (hg ▸ at7_alloc w a 65) hb3 (by omega))
  have HB : Hid (at7 W (g + 1) b) := Lib.hid (by rw [← hW, ← s1]; exact at7_alloc _ b 65)
  have HBW := Lib.hid hBW
  have HS := Lib.hid hW
  have GW := hG.below hBW
  have GG : Hid (∀ w' : World, Below W.heap.size W w' → DimGlob w') := Lib.hid (fun w' h => GW.below h)
  have HAB : Hid (∀ w' : World, Below W.heap.size W w' → at7 w' g a ∧ at7 w' (g + 1) b) := Lib.hid (fun w' h => ⟨at7_below HA.out h (by omega), at7_below HB.out h (by omega)⟩)
  obtain ⟨ta, hta⟩ : ∃ ta, textD a = ta := ⟨_, rfl⟩
  obtain ⟨tb, htb⟩ : ∃ tb, textD b = tb := ⟨_, rfl⟩
  obtain ⟨q, hq⟩ : ∃ q, eqD a b = q := ⟨_, rfl⟩
  have hlaw : (ta.toList == tb.toList) = q := by
    have := text_law a b
    rw [hta, htb, hq] at this
    simpa using this
  have hE : ∀ (d : Nat) (w : World), (Op.equalIn (d + 2) 65 (.agg #[.int .i64 (a 0), .int .i64 (a 1), .int .i64 (a 2), .int .i64 (a 3), .int .i64 (a 4), .int .i64 (a 5), .int .i64 (a 6)]) (.agg #[.int .i64 (b 0), .int .i64 (b 1), .int .i64 (b 2), .int .i64 (b 3), .int .i64 (b 4), .int .i64 (b 5), .int .i64 (b 6)])).run Tryd.prog w = .ok q w := fun d w => by
    rw [← hq]; exact eqDim d w (a 0) (b 0) (a 1) (b 1) (a 2) (b 2) (a 3) (b 3) (a 4) (b 4) (a 5) (b 5) (a 6) (b 6)
  have KA : Hid (∀ w : World, DimGlob w → Calls Tryd.prog 48 #[.agg #[.int .i64 (a 0), .int .i64 (a 1), .int .i64 (a 2), .int .i64 (a 3), .int .i64 (a 4), .int .i64 (a 5), .int .i64 (a 6)]] w fun x w' => x = .returned (.string ta) ∧ Below w.heap.size w w') := Lib.hid (fun w hG => by
    have := dtext_any a w ha hG
    rw [hta] at this; exact this)
  have KB : Hid (∀ w : World, DimGlob w → Calls Tryd.prog 48 #[.agg #[.int .i64 (b 0), .int .i64 (b 1), .int .i64 (b 2), .int .i64 (b 3), .int .i64 (b 4), .int .i64 (b 5), .int .i64 (b 6)]] w fun x w' => x = .returned (.string tb) ∧ Below w.heap.size w w') := Lib.hid (fun w hG => by
    have := dtext_any b w hb hG
    rw [htb] at this; exact this)
  clear hta htb hq hBW hb3 s1 hW ha hb
  unfold dv
  go_enter Tryd.func13, Tryd.ntmps13
  go_wp2_with fail
  rw [HS.out]
  have hB0 : Below W.heap.size W W.drew := bl_drew (Below.refl _ _)
  obtain ⟨x0, x1, x2, x3, x4, x5, x6⟩ := at7_open HA.out
  obtain ⟨y0, y1, y2, y3, y4, y5, y6⟩ := at7_open HB.out
  have KS : Hid (∀ w' : World, Below W.heap.size W w' → (w'.cell? ⟨g, 0, none⟩ = some (.int .i64 (a 0)) ∧ w'.cell? ⟨g, 1, none⟩ = some (.int .i64 (a 1)) ∧ w'.cell? ⟨g, 2, none⟩ = some (.int .i64 (a 2)) ∧ w'.cell? ⟨g, 3, none⟩ = some (.int .i64 (a 3)) ∧ w'.cell? ⟨g, 4, none⟩ = some (.int .i64 (a 4)) ∧ w'.cell? ⟨g, 5, none⟩ = some (.int .i64 (a 5)) ∧ w'.cell? ⟨g, 6, none⟩ = some (.int .i64 (a 6)) ∧
      w'.cell? ⟨g + 1, 0, none⟩ = some (.int .i64 (b 0)) ∧ w'.cell? ⟨g + 1, 1, none⟩ = some (.int .i64 (b 1)) ∧ w'.cell? ⟨g + 1, 2, none⟩ = some (.int .i64 (b 2)) ∧ w'.cell? ⟨g + 1, 3, none⟩ = some (.int .i64 (b 3)) ∧ w'.cell? ⟨g + 1, 4, none⟩ = some (.int .i64 (b 4)) ∧ w'.cell? ⟨g + 1, 5, none⟩ = some (.int .i64 (b 5)) ∧ w'.cell? ⟨g + 1, 6, none⟩ = some (.int .i64 (b 6)) ∧ Below W.heap.size W w')) := Lib.hid (fun w' h => by
    obtain ⟨h1, h2⟩ := HAB.out w' h
    obtain ⟨p0, p1, p2, p3, p4, p5, p6⟩ := at7_open h1
    obtain ⟨q0, q1, q2, q3, q4, q5, q6⟩ := at7_open h2
    exact ⟨p0, p1, p2, p3, p4, p5, p6, q0, q1, q2, q3, q4, q5, q6, h⟩)
  cases q
  all_goals
    go_region_held3 (fun w' => w'.cell? ⟨g, 0, none⟩ = some (.int .i64 (a 0)) ∧ w'.cell? ⟨g, 1, none⟩ = some (.int .i64 (a 1)) ∧ w'.cell? ⟨g, 2, none⟩ = some (.int .i64 (a 2)) ∧ w'.cell? ⟨g, 3, none⟩ = some (.int .i64 (a 3)) ∧ w'.cell? ⟨g, 4, none⟩ = some (.int .i64 (a 4)) ∧ w'.cell? ⟨g, 5, none⟩ = some (.int .i64 (a 5)) ∧ w'.cell? ⟨g, 6, none⟩ = some (.int .i64 (a 6)) ∧ w'.cell? ⟨g + 1, 0, none⟩ = some (.int .i64 (b 0)) ∧ w'.cell? ⟨g + 1, 1, none⟩ = some (.int .i64 (b 1)) ∧ w'.cell? ⟨g + 1, 2, none⟩ = some (.int .i64 (b 2)) ∧ w'.cell? ⟨g + 1, 3, none⟩ = some (.int .i64 (b 3)) ∧ w'.cell? ⟨g + 1, 4, none⟩ = some (.int .i64 (b 4)) ∧ w'.cell? ⟨g + 1, 5, none⟩ = some (.int .i64 (b 5)) ∧ w'.cell? ⟨g + 1, 6, none⟩ = some (.int .i64 (b 6)) ∧ Below W.heap.size W w') (first | exact KS.out _ (by assumption) | exact KS.out _ hB0)
      (first | (go_at_call 48; with_reducible refine (KA.out _ (GG.out _ (by assumption))).mono ?_; rintro e w1 ⟨rfl, hb1⟩; have hB1 := bl_then hB0 hb1)
             | (go_at_call 48; with_reducible refine (KB.out _ (GG.out _ (by assumption))).mono ?_; rintro e w2 ⟨rfl, hb2⟩; have hB2 := bl_then hB1 hb2)
             | (go_at_call 50; with_reducible refine (dimWakes_any _ (GG.out _ (by assumption))).mono ?_; rintro e w3 ⟨rfl, hb3⟩; have hB3 := bl_then hB2 hb3))
    go_wp2_with fail
    go_ret
    exact ⟨rfl, HBW.out.trans (hB3.mono HBW.out.size)⟩
end Go.Proofs.YtcajdkncohcaeaaDoor
