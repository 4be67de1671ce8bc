import Derived.Test.YtcajdkncohcaeaaDoorLxT
import Derived.Test.YtcajdkncohcaeaaDoorLxY
namespace Go.Proofs.YtcajdkncohcaeaaDoor
set_option linter.unusedVariables false
set_option linter.unusedSimpArgs false
open Go.RowKit Go.Proofs.YtcajdkncohcaeaaDoorW.PrintWords
attribute [local go_sem high] eqTok eqFlt

/-- what a call of the reference's Tokens leaves, laid open -/
theorem rtokens_at (s : ByteArray) (L : List Tok) (n : Nat) (E A : Int) (h : tokensOf s = (L, E, A)) (hn : L.length = n) (w : World) (hs : s.size ≤ 140737488351232) :
    Calls Tryd.prog 17 #[.string s] w fun e w' => ∃ Ad c, e = .returned (.agg #[.slice Ad n c, .int .i64 E, .int .i64 A]) ∧ Kd.C kTok w' Ad n L ∧ Below w.heap.size w w' := by
  have := rtokens_any s w hs
  rw [h] at this
  refine this.mono ?_
  rintro e w' ⟨v, he, hR, hB⟩
  obtain ⟨Ad, c, rfl, _, hC⟩ := Kd.R_reads hR
  subst hn
  exact ⟨Ad, c, he, hC, hB⟩

set_option maxRecDepth 20000 in
set_option maxHeartbeats 4000000 in
theorem lexTells_near (s t : ByteArray) (w : World) (hs : s.size ≤ 4500) (ht : t.size ≤ 500) (hG : Glob w) :
    Calls Tryd.prog 3 #[.string s, .string t] w (lwPost w) := by
  obtain ⟨⟨L, E, A⟩, ha⟩ : ∃ r, tokensOf s = r := ⟨_, rfl⟩
  obtain ⟨n, hn⟩ : ∃ n, L.length = n := ⟨_, rfl⟩
  have hnS : n ≤ s.size := by have : L.length ≤ s.size := (by have := tokens_len s; rw [ha] at this; exact this); omega
  have TA := Lib.hid (tokens_at s L n E A ha hn)
  have RT := Lib.hid (rtokens_at s L n E A ha hn)
  obtain ⟨b, hb⟩ : ∃ b, isName t = b := ⟨_, rfl⟩
  have N1 : Hid (∀ w : World, Glob w → Calls Tryd.prog 19 #[.string t] w fun e w' => e = .returned (.bool b) ∧ w = w') := Lib.hid (fun w hG => by
    have := isName_any t w (by omega) hG
    rwa [hb] at this)
  have N2 : Hid (∀ w : World, Calls Tryd.prog 20 #[.string t] w fun e w' => e = .returned (.bool b) ∧ w = w') := Lib.hid (fun w => by
    have := risName_any t w (by omega)
    rwa [hb] at this)
  clear ha hn hb
  go_enter Tryd.func3, Tryd.ntmps3
  go_wp2_with fail
  refine (TA.out w (by omega) hG).mono ?_
  rintro e w1 ⟨A1, c1, rfl, hC1, hb1⟩
  have B1 := Lib.hid (hb1.trans ((alloc_keep w1 (.cells #[.int .i64 E, .int .i64 A] 26)).mono hb1.size))
  have G1 := hG.below B1.out
  have C1 := Kd.C_alloc hC1 (.cells #[.int .i64 E, .int .i64 A] 26)
  have p1 : (w1.alloc (.cells #[.int .i64 E, .int .i64 A] 26)).cell? ⟨w1.heap.size, 0, none⟩ = some (.int .i64 E) := by simp
  have q1 : (w1.alloc (.cells #[.int .i64 E, .int .i64 A] 26)).cell? ⟨w1.heap.size, 1, none⟩ = some (.int .i64 A) := by simp
  have C1 := Lib.hid C1
  have P1 := Lib.hid p1
  have Q1 := Lib.hid q1
  clear hC1 hb1 p1 q1 TA
  go_wp2_with fail
  refine (RT.out _ (by omega)).mono ?_
  rintro e w2 ⟨A2, c2, rfl, hC2, hb2⟩
  have hbb := bl_then hb2 (alloc_keep w2 (.cells #[.slice A2 n c2, .int .i64 E, .int .i64 A] 30))
  have B2 := Lib.hid (bl_then B1.out hbb)
  have G2 := G1.below hbb
  have C2 := Lib.hid (Kd.C_alloc hC2 (.cells #[.slice A2 n c2, .int .i64 E, .int .i64 A] 30))
  have D1 := Lib.hid (Kd.C_below C1.out hbb)
  have P2 := Lib.hid (pw_cell_below hbb P1.out)
  have Q2 := Lib.hid (pw_cell_below hbb Q1.out)
  have p3 : (w2.alloc (.cells #[.slice A2 n c2, .int .i64 E, .int .i64 A] 30)).cell? ⟨w2.heap.size, 0, none⟩ = some (.slice A2 n c2) := by simp
  have q3 : (w2.alloc (.cells #[.slice A2 n c2, .int .i64 E, .int .i64 A] 30)).cell? ⟨w2.heap.size, 1, none⟩ = some (.int .i64 E) := by simp
  have r3 : (w2.alloc (.cells #[.slice A2 n c2, .int .i64 E, .int .i64 A] 30)).cell? ⟨w2.heap.size, 2, none⟩ = some (.int .i64 A) := by simp
  have Q3 := Lib.hid q3
  have R3 := Lib.hid r3
  clear hC2 hb2 hbb q3 r3 C1 P1 Q1 G1 B1 RT
  obtain ⟨W, hW⟩ : ∃ W, w2.alloc (.cells #[.slice A2 n c2, .int .i64 E, .int .i64 A] 30) = W := ⟨_, rfl⟩
  rw [hW] at G2 B2 C2 D1 P2 Q2 Q3 R3 p3
  go_wp2_with fail
  clear hW
  refine (kTokens_any A1 A2 n c1 c2 L W D1.out C2.out (by omega)).mono ?_
  rintro e w3 ⟨rfl, hb3⟩
  have G3 := G2.below hb3
  have B3 := Lib.hid (bl_then B2.out hb3)
  have x1 := pw_cell_below hb3 P2.out
  have x2 := pw_cell_below hb3 Q2.out
  have x3 := pw_cell_below hb3 Q3.out
  have x4 := pw_cell_below hb3 R3.out
  clear hb3 p3
  go_wp2_with (first | (go_at_call 19; (with_reducible refine (N1.out _ G3).mono ?_); rintro e w' ⟨rfl, rfl⟩) | (go_at_call 20; (with_reducible refine (N2.out _).mono ?_); rintro e w' ⟨rfl, rfl⟩))
  refine (lexWakes_any _ G3).mono ?_
  rintro e w4 ⟨rfl, hb4⟩
  have B4 := Lib.hid (bl_then B3.out hb4)
  clear hb4
  go_wp2_with fail
  go_ret
  exact ⟨rfl, B4.out⟩

set_option maxRecDepth 20000 in
set_option maxHeartbeats 1000000 in
theorem lexTells_any (s t : ByteArray) (w : World) (hs : s.size ≤ 140737488351232) (ht : t.size ≤ 140737488351232) (hG : Glob w) :
    Calls Tryd.prog 3 #[.string s, .string t] w (lwPost w) := by
  by_cases hbig : 4500 < s.size
  · have hb : (4500 : Int) < (s.size : Int) := by omega
    go_enter Tryd.func3, Tryd.ntmps3
    go_wp2_with fail
    refine (lexWakes_any w hG).mono ?_
    rintro e w1 ⟨rfl, hb⟩
    go_wp2_with fail
    go_ret
    exact ⟨rfl, hb⟩
  · by_cases hbig2 : 500 < t.size
    · have hb : (500 : Int) < (t.size : Int) := by omega
      have hb0 : ¬ (4500 : Int) < (s.size : Int) := by omega
      go_enter Tryd.func3, Tryd.ntmps3
      go_wp2_with fail
      refine (lexWakes_any w hG).mono ?_
      rintro e w1 ⟨rfl, hb⟩
      go_wp2_with fail
      go_ret
      exact ⟨rfl, hb⟩
    · exact lexTells_near s t w (by omega) (by omega) hG
end Go.Proofs.YtcajdkncohcaeaaDoor
