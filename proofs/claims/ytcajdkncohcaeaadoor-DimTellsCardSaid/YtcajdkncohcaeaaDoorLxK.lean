import Derived.Test.YtcajdkncohcaeaaDoorLxJ
namespace Go.Proofs.YtcajdkncohcaeaaDoor
set_option linter.unusedVariables false
set_option linter.unusedSimpArgs false
open Go.RowKit Go.Proofs.YtcajdkncohcaeaaDoorW.PrintWords
attribute [local go_sem high] eqTok eqFlt

def txt1 : ByteArray := ⟨#[108, 101, 116, 32, 121, 95, 49, 32, 61, 32, 49, 46, 53, 101, 50, 32, 91, 109, 47, 115, 93, 94, 45, 50, 59, 32, 35, 32, 110, 10, 120]⟩
def toks1 : List Tok := [⟨1, ⟨#[108, 101, 116]⟩, 0⟩, ⟨1, ⟨#[121, 95, 49]⟩, 4⟩, ⟨3, ⟨#[61]⟩, 8⟩, ⟨2, ⟨#[49, 46, 53, 101, 50]⟩, 10⟩, ⟨4, ⟨#[109, 47, 115]⟩, 16⟩, ⟨3, ⟨#[94]⟩, 21⟩, ⟨3, ⟨#[45]⟩, 22⟩, ⟨2, ⟨#[50]⟩, 23⟩, ⟨3, ⟨#[59]⟩, 24⟩, ⟨1, ⟨#[120]⟩, 30⟩]
theorem tok1 : tokensOf txt1 = (toks1, 0, 0) := by kernel_rfl
theorem tok2 : tokensOf ⟨#[97, 32, 50, 120]⟩ = ([], 11, 2) := by kernel_rfl
theorem tok3 : tokensOf ⟨#[91, 109]⟩ = ([], 11, 0) := by kernel_rfl
theorem tok4 : tokensOf ⟨#[91, 93]⟩ = ([], 11, 0) := by kernel_rfl
theorem nam1 : isName ⟨#[95, 120, 49]⟩ = true := by kernel_rfl
theorem nam2 : isName ⟨#[105, 110]⟩ = false := by kernel_rfl
theorem nam3 : isName ⟨#[49, 120]⟩ = false := by kernel_rfl

/-- what a call of Tokens leaves, laid open -/
theorem tokens_at (s : ByteArray) (L : List Tok) (n : Nat) (E A : Int) (h : tokensOf s = (L, E, A)) (hn : L.length = n) (w : World) (hs : s.size ≤ 140737488351232) (hG : Glob w) :
    Calls Tryd.prog 16 #[.string s] w fun e w' => ∃ Ad c, e = .returned (.tuple #[.slice Ad n c, .agg #[.int .i64 E, .int .i64 A]]) ∧ Kd.C kTok w' Ad n L ∧ Below w.heap.size w w' := by
  have := tokens_any s w hs hG
  rw [h] at this
  refine this.mono ?_
  rintro e w' ⟨v, he, hR, hB⟩
  obtain ⟨Ad, c, rfl, _, hC⟩ := Kd.R_reads hR
  subst hn
  exact ⟨Ad, c, he, hC, hB⟩
/-- the world of a variable that is made -/
theorem alloc_keep (w : World) (o : Obj) : Below w.heap.size w (w.alloc o) := bl_alloc (Below.refl _ _) o

set_option maxRecDepth 20000 in
set_option maxHeartbeats 2000000 in
theorem lexWakes_any (w : World) (hG : Glob w) :
    Calls Tryd.prog 15 #[] w fun e w' => e = .returned (.bool true) ∧ Below w.heap.size w w' := by
  have T1 := Lib.hid (tokens_at txt1 toks1 10 0 0 tok1 rfl)
  have T2 := Lib.hid (tokens_at _ _ 0 _ _ tok2 rfl)
  have T3 := Lib.hid (tokens_at _ _ 0 _ _ tok3 rfl)
  have T4 := Lib.hid (tokens_at _ _ 0 _ _ tok4 rfl)
  go_enter Tryd.func15, Tryd.ntmps15
  go_wp2_with fail
  refine (T1.out w (by decide) hG).mono ?_
  rintro e w1 ⟨A1, c1, rfl, hC1, hb1⟩
  have B1 := Lib.hid (hb1.trans ((alloc_keep w1 (.cells #[.int .i64 0, .int .i64 0] 26)).mono hb1.size))
  have C1 := Lib.hid (Kd.C_alloc hC1 (.cells #[.int .i64 0, .int .i64 0] 26))
  have p1_1 : Hid ((w1.alloc (.cells #[.int .i64 0, .int .i64 0] 26)).cell? ⟨w1.heap.size, 0, none⟩ = some (.int .i64 0)) := Lib.hid (by simp)
  have q1_1 : Hid ((w1.alloc (.cells #[.int .i64 0, .int .i64 0] 26)).cell? ⟨w1.heap.size, 1, none⟩ = some (.int .i64 0)) := Lib.hid (by simp)
  have g1 := hG.below B1.out
  clear hC1 hb1
  go_wp2_with fail
  refine (T2.out _ (by decide) g1).mono ?_
  rintro e w2 ⟨A2, c2, rfl, hC2, hb2⟩
  have B2 := Lib.hid (bl_then B1.out (bl_then hb2 (alloc_keep w2 (.cells #[.int .i64 11, .int .i64 2] 26))))
  have mv2 : ∀ {a v}, (w1.alloc (.cells #[.int .i64 0, .int .i64 0] 26)).cell? a = some v → (w2.alloc (.cells #[.int .i64 11, .int .i64 2] 26)).cell? a = some v := fun h => pw_cell_below (bl_then hb2 (alloc_keep w2 _)) h
  have C2 := Lib.hid (Kd.C_below C1.out (bl_then hb2 (alloc_keep w2 (.cells #[.int .i64 11, .int .i64 2] 26))))
  have p1_2 := Lib.hid (mv2 p1_1.out)
  have q1_2 := Lib.hid (mv2 q1_1.out)
  have p2_2 : Hid ((w2.alloc (.cells #[.int .i64 11, .int .i64 2] 26)).cell? ⟨w2.heap.size, 0, none⟩ = some (.int .i64 11)) := Lib.hid (by simp)
  have q2_2 : Hid ((w2.alloc (.cells #[.int .i64 11, .int .i64 2] 26)).cell? ⟨w2.heap.size, 1, none⟩ = some (.int .i64 2)) := Lib.hid (by simp)
  have g2 := g1.below (bl_then hb2 (alloc_keep w2 (.cells #[.int .i64 11, .int .i64 2] 26)))
  clear hC2 hb2 mv2 C1 B1 g1
  go_wp2_with fail
  refine (T3.out _ (by decide) g2).mono ?_
  rintro e w3 ⟨A3, c3, rfl, hC3, hb3⟩
  have B3 := Lib.hid (bl_then B2.out (bl_then hb3 (alloc_keep w3 (.cells #[.int .i64 11, .int .i64 0] 26))))
  have mv3 : ∀ {a v}, (w2.alloc (.cells #[.int .i64 11, .int .i64 2] 26)).cell? a = some v → (w3.alloc (.cells #[.int .i64 11, .int .i64 0] 26)).cell? a = some v := fun h => pw_cell_below (bl_then hb3 (alloc_keep w3 _)) h
  have C3 := Lib.hid (Kd.C_below C2.out (bl_then hb3 (alloc_keep w3 (.cells #[.int .i64 11, .int .i64 0] 26))))
  have p1_3 := Lib.hid (mv3 p1_2.out)
  have q1_3 := Lib.hid (mv3 q1_2.out)
  have p2_3 := Lib.hid (mv3 p2_2.out)
  have q2_3 := Lib.hid (mv3 q2_2.out)
  have p3_3 : Hid ((w3.alloc (.cells #[.int .i64 11, .int .i64 0] 26)).cell? ⟨w3.heap.size, 0, none⟩ = some (.int .i64 11)) := Lib.hid (by simp)
  have q3_3 : Hid ((w3.alloc (.cells #[.int .i64 11, .int .i64 0] 26)).cell? ⟨w3.heap.size, 1, none⟩ = some (.int .i64 0)) := Lib.hid (by simp)
  have g3 := g2.below (bl_then hb3 (alloc_keep w3 (.cells #[.int .i64 11, .int .i64 0] 26)))
  clear hC3 hb3 mv3 C2 B2 g2
  go_wp2_with fail
  refine (T4.out _ (by decide) g3).mono ?_
  rintro e w4 ⟨A4, c4, rfl, hC4, hb4⟩
  have B4 := Lib.hid (bl_then B3.out (bl_then hb4 (alloc_keep w4 (.cells #[.int .i64 11, .int .i64 0] 26))))
  have mv4 : ∀ {a v}, (w3.alloc (.cells #[.int .i64 11, .int .i64 0] 26)).cell? a = some v → (w4.alloc (.cells #[.int .i64 11, .int .i64 0] 26)).cell? a = some v := fun h => pw_cell_below (bl_then hb4 (alloc_keep w4 _)) h
  have C4 := Lib.hid (Kd.C_below C3.out (bl_then hb4 (alloc_keep w4 (.cells #[.int .i64 11, .int .i64 0] 26))))
  have p1_4 := Lib.hid (mv4 p1_3.out)
  have q1_4 := Lib.hid (mv4 q1_3.out)
  have p2_4 := Lib.hid (mv4 p2_3.out)
  have q2_4 := Lib.hid (mv4 q2_3.out)
  have p3_4 := Lib.hid (mv4 p3_3.out)
  have q3_4 := Lib.hid (mv4 q3_3.out)
  have p4_4 : Hid ((w4.alloc (.cells #[.int .i64 11, .int .i64 0] 26)).cell? ⟨w4.heap.size, 0, none⟩ = some (.int .i64 11)) := Lib.hid (by simp)
  have q4_4 : Hid ((w4.alloc (.cells #[.int .i64 11, .int .i64 0] 26)).cell? ⟨w4.heap.size, 1, none⟩ = some (.int .i64 0)) := Lib.hid (by simp)
  have g4 := g3.below (bl_then hb4 (alloc_keep w4 (.cells #[.int .i64 11, .int .i64 0] 26)))
  clear hC4 hb4 mv4 C3 B3 g3
  obtain ⟨ad, e1, x1_0, x1_1, x1_2⟩ := atTok C4.out 1 (by decide) (by decide)
  subst e1
  replace x1_0 : (w4.alloc (.cells #[.int .i64 11, .int .i64 0] 26)).cell? ⟨ad.block, ad.off + 3, none⟩ = some (.int .i64 1) := x1_0
  replace x1_1 : (w4.alloc (.cells #[.int .i64 11, .int .i64 0] 26)).cell? ⟨ad.block, ad.off + 3 + 1, none⟩ = some (.string ⟨#[121, 95, 49]⟩) := x1_1
  replace x1_2 : (w4.alloc (.cells #[.int .i64 11, .int .i64 0] 26)).cell? ⟨ad.block, ad.off + 3 + 2, none⟩ = some (.int .i64 4) := x1_2
  obtain ⟨ad3, e3, x3_0, x3_1, x3_2⟩ := atTok C4.out 3 (by decide) (by decide)
  obtain rfl := Option.some.inj e3
  replace x3_0 : (w4.alloc (.cells #[.int .i64 11, .int .i64 0] 26)).cell? ⟨ad.block, ad.off + 9, none⟩ = some (.int .i64 2) := x3_0
  replace x3_1 : (w4.alloc (.cells #[.int .i64 11, .int .i64 0] 26)).cell? ⟨ad.block, ad.off + 9 + 1, none⟩ = some (.string ⟨#[49, 46, 53, 101, 50]⟩) := x3_1
  replace x3_2 : (w4.alloc (.cells #[.int .i64 11, .int .i64 0] 26)).cell? ⟨ad.block, ad.off + 9 + 2, none⟩ = some (.int .i64 10) := x3_2
  obtain ⟨ad4, e4, x4_0, x4_1, x4_2⟩ := atTok C4.out 4 (by decide) (by decide)
  obtain rfl := Option.some.inj e4
  replace x4_0 : (w4.alloc (.cells #[.int .i64 11, .int .i64 0] 26)).cell? ⟨ad.block, ad.off + 12, none⟩ = some (.int .i64 4) := x4_0
  replace x4_1 : (w4.alloc (.cells #[.int .i64 11, .int .i64 0] 26)).cell? ⟨ad.block, ad.off + 12 + 1, none⟩ = some (.string ⟨#[109, 47, 115]⟩) := x4_1
  replace x4_2 : (w4.alloc (.cells #[.int .i64 11, .int .i64 0] 26)).cell? ⟨ad.block, ad.off + 12 + 2, none⟩ = some (.int .i64 16) := x4_2
  obtain ⟨ad9, e9, x9_0, x9_1, x9_2⟩ := atTok C4.out 9 (by decide) (by decide)
  obtain rfl := Option.some.inj e9
  replace x9_0 : (w4.alloc (.cells #[.int .i64 11, .int .i64 0] 26)).cell? ⟨ad.block, ad.off + 27, none⟩ = some (.int .i64 1) := x9_0
  replace x9_1 : (w4.alloc (.cells #[.int .i64 11, .int .i64 0] 26)).cell? ⟨ad.block, ad.off + 27 + 1, none⟩ = some (.string ⟨#[120]⟩) := x9_1
  replace x9_2 : (w4.alloc (.cells #[.int .i64 11, .int .i64 0] 26)).cell? ⟨ad.block, ad.off + 27 + 2, none⟩ = some (.int .i64 30) := x9_2
  have p1 := p1_4.out
  have q1 := q1_4.out
  clear p1_1 q1_1 p1_2 q1_2 p1_3 q1_3 p1_4 q1_4
  have p2 := p2_4.out
  have q2 := q2_4.out
  clear p2_2 q2_2 p2_3 q2_3 p2_4 q2_4
  have p3 := p3_4.out
  have q3 := q3_4.out
  clear p3_3 q3_3 p3_4 q3_4
  have p4 := p4_4.out
  have q4 := q4_4.out
  clear p4_4 q4_4
  have N : ∀ (s : ByteArray) (b : Bool), isName s = b → ∀ w : World, s.size ≤ 140737488351232 → Glob w → Calls Tryd.prog 19 #[.string s] w fun e w' => e = .returned (.bool b) ∧ w = w' := fun s b h w hs hG => by
    have := isName_any s w hs hG
    rwa [h] at this
  have N1 := Lib.hid (N _ _ nam1)
  have N2 := Lib.hid (N _ _ nam2)
  have N3 := Lib.hid (N _ _ nam3)
  clear N C4 T1 T2 T3 T4
  go_wp2_with (first | (go_at_call 19; (with_reducible refine (N1.out _ (by decide) g4).mono ?_); rintro e w' ⟨rfl, rfl⟩) | (go_at_call 19; (with_reducible refine (N2.out _ (by decide) g4).mono ?_); rintro e w' ⟨rfl, rfl⟩) | (go_at_call 19; (with_reducible refine (N3.out _ (by decide) g4).mono ?_); rintro e w' ⟨rfl, rfl⟩))
  go_ret
  exact ⟨rfl, B4.out⟩
end Go.Proofs.YtcajdkncohcaeaaDoor
