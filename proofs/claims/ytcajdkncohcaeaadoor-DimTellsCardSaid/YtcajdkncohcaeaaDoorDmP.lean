import Derived.Test.YtcajdkncohcaeaaDoorDmE
namespace Go.Proofs.YtcajdkncohcaeaaDoor
set_option linter.unusedVariables false
set_option linter.unusedSimpArgs false
open Go.RowKit Go.Proofs.YtcajdkncohcaeaaDoorW.PrintWords

theorem goodFrom_at (a : Nat → Int) (k : Nat) (hk : k < 7) : goodFrom a k = (okE (a k) && goodFrom a (k + 1)) := by
  rcases below7 hk with h | h | h | h | h | h | h <;> subst h <;> rfl
set_option maxRecDepth 20000 in
set_option maxHeartbeats 2000000 in
theorem rgood_any (a : Nat → Int) (w : World) :
    Calls Tryd.prog 47 #[dv a] w fun e w' => e = .returned (.bool (goodD a)) ∧ Below w.heap.size w w' := by
  have HK := Lib.hid (show goodFrom a 0 = goodD a from rfl)
  obtain ⟨g, hg⟩ : ∃ g, w.heap.size = g := ⟨_, rfl⟩
  obtain ⟨W, hW⟩ : ∃ W, w.alloc (.cells #[.int .i64 (a 0), .int .i64 (a 1), .int .i64 (a 2), .int .i64 (a 3), .int .i64 (a 4), .int .i64 (a 5), .int .i64 (a 6)] 65) = W := ⟨_, rfl⟩
  have HA : Hid (at7 W g a) := Lib.hid (by rw [← hW, ← hg]; exact at7_alloc w a _)
  have HB : Hid (Below g w W) := Lib.hid (by rw [← hW, ← hg]; exact alloc_keep _ _)
  have HS := Lib.hid hW
  clear hW
  unfold dv
  go_enter Tryd.func47, Tryd.ntmps47
  go_wp2_with fail
  rw [HS.out]
  clear HS
  go_loop [3] (fun i => ∃ k : Nat, i = .int .i64 k ∧ k ≤ 7 ∧ Hid (goodFrom a k = goodD a)) (fun i => 7 - (intOf i).toNat)
  case atStart => exact ⟨0, rfl, Nat.zero_le _, HK⟩
  case round =>
    obtain ⟨k, rfl, hk, HR⟩ := hrel
    by_cases hlt : k < 7
    · have ca := HA.out k hlt
      have hst := goodFrom_at a k hlt
      obtain ⟨n, hn⟩ : ∃ n, a k = n := ⟨_, rfl⟩
      rw [hn] at hst ca
      cases hz : okE n with
      | true =>
        have HS : Hid (goodFrom a (k + 1) = goodD a) := Lib.hid (by rw [← HR.out, hst, hz, Bool.true_and])
        obtain ⟨h1, h2⟩ := okE_true hz
        have h3 : ¬ n < -200 := by omega
        have h4 : ¬ 200 < n := by omega
        clear hz HR hst
        go_wp2_with fail
        go_round
        case rel => exact ⟨k + 1, by go_num, by omega, HS⟩
        case measure => simp [intOf]; omega
      | false =>
        have HE : Hid (goodD a = false) := Lib.hid (by rw [← HR.out, hst, hz, Bool.false_and])
        clear HR hst
        rcases okE_false hz with h1 | h1
        all_goals
          clear hz
          go_wp2_with fail
          go_ret
          exact ⟨by rw [HE.out]; rfl, HB.out⟩
    · obtain rfl : k = 7 := by omega
      have HE : Hid (goodD a = true) := Lib.hid (by rw [← HR.out]; rfl)
      clear HR
      go_wp2_with fail
      go_ret
      exact ⟨by rw [HE.out]; rfl, HB.out⟩

theorem rgood_at (a : Nat → Int) (b : Bool) (h : goodD a = b) (w : World) :
    Calls Tryd.prog 47 #[.agg #[.int .i64 (a 0), .int .i64 (a 1), .int .i64 (a 2), .int .i64 (a 3), .int .i64 (a 4), .int .i64 (a 5), .int .i64 (a 6)]] w fun e w' => e = .returned (.bool b) ∧ Below w.heap.size w w' := by
  have := rgood_any a w
  rwa [h] at this
/-- a dimension and an error as one value -/
def gotV (r : (Nat → Int) × Int) : Value := .agg #[.int .i64 (r.1 0), .int .i64 (r.1 1), .int .i64 (r.1 2), .int .i64 (r.1 3), .int .i64 (r.1 4), .int .i64 (r.1 5), .int .i64 (r.1 6), .int .i64 r.2]
/-- eight cells: a dimension, an error -/
def at8e (w : World) (b : Nat) (a : Nat → Int) (e : Int) : Prop := at7 w b a ∧ w.cell? ⟨b, 7, none⟩ = some (.int .i64 e)
theorem at8e_set {w : World} {b : Nat} {x : Nat → Int} {y : Int} (h : at8e w b x y) (a : Nat → Int) (e : Int) : at8e ((((((((w.setCell ⟨b, 0, none⟩ (.int .i64 (a 0))).setCell ⟨b, 1, none⟩ (.int .i64 (a 1))).setCell ⟨b, 2, none⟩ (.int .i64 (a 2))).setCell ⟨b, 3, none⟩ (.int .i64 (a 3))).setCell ⟨b, 4, none⟩ (.int .i64 (a 4))).setCell ⟨b, 5, none⟩ (.int .i64 (a 5))).setCell ⟨b, 6, none⟩ (.int .i64 (a 6))).setCell ⟨b, 7, none⟩ (.int .i64 e)) b a e := by
  have hb : ∀ j, j < 8 → (w.cell? ⟨b, 0 + j, none⟩).isSome = true := fun j hj => by
    rw [Nat.zero_add]
    by_cases h7 : j < 7
    · rw [h.1 j h7]; rfl
    · obtain rfl : j = 7 := by omega
      rw [h.2]; rfl
  have key : ∀ j (hj : j < 8), (w.setCells b 0 [.int .i64 (a 0), .int .i64 (a 1), .int .i64 (a 2), .int .i64 (a 3), .int .i64 (a 4), .int .i64 (a 5), .int .i64 (a 6), .int .i64 e]).cell? ⟨b, 0 + j, none⟩ = some ([.int .i64 (a 0), .int .i64 (a 1), .int .i64 (a 2), .int .i64 (a 3), .int .i64 (a 4), .int .i64 (a 5), .int .i64 (a 6), .int .i64 e] : List Value)[j] := fun j hj =>
    World.cell?_setCells_in b _ 0 w (fun j hj => hb j (by simpa using hj)) j (by simpa using hj)
  simp only [World.setCells, Nat.zero_add, Nat.reduceAdd] at key
  refine ⟨fun j hj => ?_, key 7 (by decide)⟩
  rcases below7 hj with h | h | h | h | h | h | h <;> subst h
  · exact key 0 (by decide)
  · exact key 1 (by decide)
  · exact key 2 (by decide)
  · exact key 3 (by decide)
  · exact key 4 (by decide)
  · exact key 5 (by decide)
  · exact key 6 (by decide)

def mayV (a : Nat → Int) : Value := gotV (toldD a)
set_option maxRecDepth 20000 in
set_option maxHeartbeats 2000000 in
theorem rmay_any (a : Nat → Int) (w : World) :
    Calls Tryd.prog 66 #[dv a] w fun e w' => e = .returned (gotV (toldD a)) ∧ Below w.heap.size w w' := by
  obtain ⟨g, hg⟩ : ∃ g, w.heap.size = g := ⟨_, rfl⟩
  obtain ⟨V, hV⟩ : ∃ V, w.alloc (.cells #[.int .i64 (a 0), .int .i64 (a 1), .int .i64 (a 2), .int .i64 (a 3), .int .i64 (a 4), .int .i64 (a 5), .int .i64 (a 6)] 65) = V := ⟨_, rfl⟩
  obtain ⟨W, hW⟩ : ∃ W, V.alloc (.cells #[.int .i64 0, .int .i64 0, .int .i64 0, .int .i64 0, .int .i64 0, .int .i64 0, .int .i64 0, .int .i64 0] 70) = W := ⟨_, rfl⟩
  have s1 : V.heap.size = g + 1 := by rw [← hV, ← hg]; simp
  have s2 : W.heap.size = g + 2 := by rw [← hW]; simp [s1]
  have k1 : Below g w V := by rw [← hV, ← hg]; exact alloc_keep _ _
  have k2 : Below (g + 1) V W := by rw [← hW, ← s1]; exact alloc_keep _ _
  have HA : Hid (at7 W g a) := Lib.hid (at7_below (by rw [← hV, ← hg]; exact at7_alloc w a _ : at7 V g a) k2 (by omega))
  have HR : Hid (at8e W (g + 1) zD 0) := Lib.hid (by
    rw [← hW, ← s1]
    refine ⟨fun j hj => ?_, by simp⟩
    rcases below7 hj with h | h | h | h | h | h | h <;> subst h <;> simp [zD])
  have FR : Hid (at7f W (g + 1)) := Lib.hid (fun j => by rw [← hW, ← s1]; apply World.frozen?_alloc_new)
  have HBW : Hid (Below g w W) := Lib.hid (k1.trans (k2.mono (by omega)))
  have HS1 := Lib.hid hV
  have HS2 := Lib.hid hW
  clear hV hW k1 k2 s1
  cases gg : goodD a
  all_goals
    have GD := Lib.hid (rgood_at a _ gg)
    have HV : Hid (toldD a = _) := Lib.hid (by rw [toldD, gg])
    clear gg
    unfold dv
    go_enter Tryd.func66, Tryd.ntmps66
    go_wp2_with fail
    rw [HS1.out, HS2.out]
    refine (GD.out _).mono ?_
    rintro e w1 ⟨rfl, hb1⟩
    rw [s2] at hb1
    obtain ⟨x0, x1, x2, x3, x4, x5, x6⟩ := at7_open (at7_below HA.out hb1 (by omega))
    have hR1 : at8e w1 (g + 1) zD 0 := ⟨at7_below HR.out.1 hb1 (by omega), (hb1.cell (p := ⟨g + 1, 7, none⟩) (show g + 1 < g + 2 by omega)).trans HR.out.2⟩
    obtain ⟨r0, r1, r2, r3, r4, r5, r6⟩ := at7_open hR1.1
    have r7 := hR1.2
    have fr : ∀ j, w1.frozen? ⟨g + 1, j, none⟩ = false := at7f_below FR.out hb1 (by omega)
    have HR1 := Lib.hid hR1
    have HB1 := Lib.hid (HBW.out.trans (hb1.mono (by omega)))
    clear hb1 hR1
    go_wp2_with fail
    rw [HV.out]
  · have HE := at8e_set HR1.out zD 2
    have HB3 : Below g w ((((((((w1.setCell ⟨g + 1, 0, none⟩ (.int .i64 0)).setCell ⟨g + 1, 1, none⟩ (.int .i64 0)).setCell ⟨g + 1, 2, none⟩ (.int .i64 0)).setCell ⟨g + 1, 3, none⟩ (.int .i64 0)).setCell ⟨g + 1, 4, none⟩ (.int .i64 0)).setCell ⟨g + 1, 5, none⟩ (.int .i64 0)).setCell ⟨g + 1, 6, none⟩ (.int .i64 0)).setCell ⟨g + 1, 7, none⟩ (.int .i64 2)) := (Below.setCell (Below.setCell (Below.setCell (Below.setCell (Below.setCell (Below.setCell (Below.setCell (Below.setCell HB1.out (p := ⟨g + 1, 0, none⟩) (show g ≤ g + 1 by omega) _) (p := ⟨g + 1, 1, none⟩) (show g ≤ g + 1 by omega) _) (p := ⟨g + 1, 2, none⟩) (show g ≤ g + 1 by omega) _) (p := ⟨g + 1, 3, none⟩) (show g ≤ g + 1 by omega) _) (p := ⟨g + 1, 4, none⟩) (show g ≤ g + 1 by omega) _) (p := ⟨g + 1, 5, none⟩) (show g ≤ g + 1 by omega) _) (p := ⟨g + 1, 6, none⟩) (show g ≤ g + 1 by omega) _) (p := ⟨g + 1, 7, none⟩) (show g ≤ g + 1 by omega) _)
    simp only [zD] at HE
    generalize ((((((((w1.setCell ⟨g + 1, 0, none⟩ (.int .i64 0)).setCell ⟨g + 1, 1, none⟩ (.int .i64 0)).setCell ⟨g + 1, 2, none⟩ (.int .i64 0)).setCell ⟨g + 1, 3, none⟩ (.int .i64 0)).setCell ⟨g + 1, 4, none⟩ (.int .i64 0)).setCell ⟨g + 1, 5, none⟩ (.int .i64 0)).setCell ⟨g + 1, 6, none⟩ (.int .i64 0)).setCell ⟨g + 1, 7, none⟩ (.int .i64 2)) = Wf at *
    obtain ⟨y0, y1, y2, y3, y4, y5, y6⟩ := at7_open HE.1
    have y7 := HE.2
    exact bodyPost_ret (v := gotV (zD, 2)) (by simp [results, Tryd.results66, go_sem, y0, y1, y2, y3, y4, y5, y6, y7, gotV, zD]) rfl ⟨rfl, by rw [hg]; exact HB3⟩
  · have HE := at8e_set HR1.out a 0
    have HB3 : Below g w ((((((((w1.setCell ⟨g + 1, 0, none⟩ (.int .i64 (a 0))).setCell ⟨g + 1, 1, none⟩ (.int .i64 (a 1))).setCell ⟨g + 1, 2, none⟩ (.int .i64 (a 2))).setCell ⟨g + 1, 3, none⟩ (.int .i64 (a 3))).setCell ⟨g + 1, 4, none⟩ (.int .i64 (a 4))).setCell ⟨g + 1, 5, none⟩ (.int .i64 (a 5))).setCell ⟨g + 1, 6, none⟩ (.int .i64 (a 6))).setCell ⟨g + 1, 7, none⟩ (.int .i64 0)) := (Below.setCell (Below.setCell (Below.setCell (Below.setCell (Below.setCell (Below.setCell (Below.setCell (Below.setCell HB1.out (p := ⟨g + 1, 0, none⟩) (show g ≤ g + 1 by omega) _) (p := ⟨g + 1, 1, none⟩) (show g ≤ g + 1 by omega) _) (p := ⟨g + 1, 2, none⟩) (show g ≤ g + 1 by omega) _) (p := ⟨g + 1, 3, none⟩) (show g ≤ g + 1 by omega) _) (p := ⟨g + 1, 4, none⟩) (show g ≤ g + 1 by omega) _) (p := ⟨g + 1, 5, none⟩) (show g ≤ g + 1 by omega) _) (p := ⟨g + 1, 6, none⟩) (show g ≤ g + 1 by omega) _) (p := ⟨g + 1, 7, none⟩) (show g ≤ g + 1 by omega) _)
    skip
    generalize ((((((((w1.setCell ⟨g + 1, 0, none⟩ (.int .i64 (a 0))).setCell ⟨g + 1, 1, none⟩ (.int .i64 (a 1))).setCell ⟨g + 1, 2, none⟩ (.int .i64 (a 2))).setCell ⟨g + 1, 3, none⟩ (.int .i64 (a 3))).setCell ⟨g + 1, 4, none⟩ (.int .i64 (a 4))).setCell ⟨g + 1, 5, none⟩ (.int .i64 (a 5))).setCell ⟨g + 1, 6, none⟩ (.int .i64 (a 6))).setCell ⟨g + 1, 7, none⟩ (.int .i64 0)) = Wf at *
    obtain ⟨y0, y1, y2, y3, y4, y5, y6⟩ := at7_open HE.1
    have y7 := HE.2
    exact bodyPost_ret (v := gotV (a, 0)) (by simp [results, Tryd.results66, go_sem, y0, y1, y2, y3, y4, y5, y6, y7, gotV, zD]) rfl ⟨rfl, by rw [hg]; exact HB3⟩
end Go.Proofs.YtcajdkncohcaeaaDoor
