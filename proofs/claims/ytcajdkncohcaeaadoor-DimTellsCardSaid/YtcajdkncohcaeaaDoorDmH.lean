import Derived.Test.YtcajdkncohcaeaaDoorDmG
namespace Go.Proofs.YtcajdkncohcaeaaDoor
set_option linter.unusedVariables false
set_option linter.unusedSimpArgs false
open Go.RowKit Go.Proofs.YtcajdkncohcaeaaDoorW.PrintWords

theorem addD_zero (a : Nat → Int) : addD a zD = a := by funext i; simp [addD, zD]
theorem subD_zero (a : Nat → Int) : subD a zD = a := by funext i; simp [subD, zD]
theorem subD_self (a : Nat → Int) : subD a a = zD := by funext i; simp [subD, zD]
theorem scD_one (a : Nat → Int) : scD a 1 = a := by funext i; simp [scD]
theorem goodD_iff (a : Nat → Int) : goodD a = true ↔ ∀ j, j < 7 → -200 ≤ a j ∧ a j ≤ 200 := by
  constructor
  · intro h j hj; exact goodD_at h j hj
  · intro h
    have hk : ∀ j, j < 7 → okE (a j) = true := fun j hj => by
      have := h j hj
      unfold okE; rw [decide_eq_true this.1, decide_eq_true this.2]; rfl
    unfold goodD goodFrom
    simp only [List.drop_zero, List.all_cons, List.all_nil, Bool.and_true, Bool.and_eq_true]
    exact ⟨hk 0 (by decide), hk 1 (by decide), hk 2 (by decide), hk 3 (by decide), hk 4 (by decide), hk 5 (by decide), hk 6 (by decide)⟩
theorem goodD_zD : goodD zD = true := by kernel_rfl
theorem eqDim_at (d : Nat) (w : World) (a b : Nat → Int) (h : ∀ j, j < 7 → a j = b j) :
    (Op.equalIn (d + 2) 65 (.agg #[.int .i64 (a 0), .int .i64 (a 1), .int .i64 (a 2), .int .i64 (a 3), .int .i64 (a 4), .int .i64 (a 5), .int .i64 (a 6)]) (.agg #[.int .i64 (b 0), .int .i64 (b 1), .int .i64 (b 2), .int .i64 (b 3), .int .i64 (b 4), .int .i64 (b 5), .int .i64 (b 6)])).run Tryd.prog w = .ok true w := by
  have h1 := (eqD_iff a b).2 h
  have h2 := eqDim d w (a 0) (b 0) (a 1) (b 1) (a 2) (b 2) (a 3) (b 3) (a 4) (b 4) (a 5) (b 5) (a 6) (b 6)
  rw [h2]
  exact congrArg (fun x => Result.ok x w) h1
set_option maxRecDepth 20000 in
set_option maxHeartbeats 4000000 in
theorem dimOne_any (a : Nat → Int) (w : World) (hG : DimGlob w) :
    Calls Tryd.prog 14 #[dv a] w fun e w' => e = .returned (.bool true) ∧ Below w.heap.size w w' := by
  have BW := Lib.hid (Below.refl w.heap.size w)
  cases ga : goodD a with
  | false =>
    have KG : Hid (∀ w : World, Calls Tryd.prog 46 #[(.agg #[.int .i64 (a 0), .int .i64 (a 1), .int .i64 (a 2), .int .i64 (a 3), .int .i64 (a 4), .int .i64 (a 5), .int .i64 (a 6)])] w fun x w' => x = .returned (.bool false) ∧ Below w.heap.size w w') := Lib.hid (fun w => dgood_at a false ga w)
    have K1 : Hid (∀ w : World, Calls Tryd.prog 41 #[(.agg #[.int .i64 (a 0), .int .i64 (a 1), .int .i64 (a 2), .int .i64 (a 3), .int .i64 (a 4), .int .i64 (a 5), .int .i64 (a 6)]), (.agg #[.int .i64 0, .int .i64 0, .int .i64 0, .int .i64 0, .int .i64 0, .int .i64 0, .int .i64 0])] w fun x w' => x = .returned (.tuple #[(.agg #[.int .i64 0, .int .i64 0, .int .i64 0, .int .i64 0, .int .i64 0, .int .i64 0, .int .i64 0]), .int .i64 1]) ∧ Below w.heap.size w w') := Lib.hid (fun w => dmul_at a zD zD 1 (by rw [mulD, ga]; rfl) w)
    have K2 : Hid (∀ w : World, Calls Tryd.prog 43 #[(.agg #[.int .i64 (a 0), .int .i64 (a 1), .int .i64 (a 2), .int .i64 (a 3), .int .i64 (a 4), .int .i64 (a 5), .int .i64 (a 6)]), .int .i64 0] w fun x w' => x = .returned (.tuple #[(.agg #[.int .i64 0, .int .i64 0, .int .i64 0, .int .i64 0, .int .i64 0, .int .i64 0, .int .i64 0]), .int .i64 1]) ∧ Below w.heap.size w w') := Lib.hid (fun w => dpow_at a zD 0 1 (by decide) (by rw [powD, ga]; rfl) w)
    clear ga
    unfold dv
    go_enter Tryd.func14, Tryd.ntmps14
    go_wp2_with fail
    obtain ⟨V, hV⟩ : ∃ V, w.alloc (.cells #[.int .i64 (a 0), .int .i64 (a 1), .int .i64 (a 2), .int .i64 (a 3), .int .i64 (a 4), .int .i64 (a 5), .int .i64 (a 6)] 65) = V := ⟨_, rfl⟩
    rw [hV]
    have hs : V.heap.size = w.heap.size + 1 := by rw [← hV]; simp
    have Ha : Hid (at7 V w.heap.size a) := Lib.hid (by rw [← hV]; exact at7_alloc w a 65)
    replace BW : Hid (Below w.heap.size w V) := Lib.hid (by rw [← hV]; exact alloc_keep _ _)
    clear hV
    obtain ⟨W1, hW⟩ : ∃ W, V.alloc (.cells #[.int .i64 0, .int .i64 0, .int .i64 0, .int .i64 0, .int .i64 0, .int .i64 0, .int .i64 0] 65) = W := ⟨_, rfl⟩
    rw [hW]
    have hk : Below V.heap.size V W1 := by rw [← hW]; exact alloc_keep _ _
    replace Ha := Lib.hid (at7_next Ha.out hk)
    have Hz : Hid (at7 W1 V.heap.size zD) := Lib.hid (by rw [← hW]; exact at7_alloc V zD 65)
    replace BW := Lib.hid (BW.out.trans (hk.mono BW.out.size))
    clear hW hk
    rw [hs] at Hz
    refine (KG.out _).mono ?_
    rintro e w2 ⟨rfl, hb⟩
    replace Ha := Lib.hid (at7_next Ha.out hb)
    replace Hz := Lib.hid (at7_next Hz.out hb)
    replace BW := Lib.hid (BW.out.trans (hb.mono BW.out.size))
    clear hb
    obtain ⟨fa0, fa1, fa2, fa3, fa4, fa5, fa6⟩ : w2.cell? ⟨w.heap.size, 0, none⟩ = some (.int .i64 (a 0)) ∧ w2.cell? ⟨w.heap.size, 1, none⟩ = some (.int .i64 (a 1)) ∧ w2.cell? ⟨w.heap.size, 2, none⟩ = some (.int .i64 (a 2)) ∧ w2.cell? ⟨w.heap.size, 3, none⟩ = some (.int .i64 (a 3)) ∧ w2.cell? ⟨w.heap.size, 4, none⟩ = some (.int .i64 (a 4)) ∧ w2.cell? ⟨w.heap.size, 5, none⟩ = some (.int .i64 (a 5)) ∧ w2.cell? ⟨w.heap.size, 6, none⟩ = some (.int .i64 (a 6)) := at7_open Ha.out
    have la := at7_lt Ha.out
    obtain ⟨fz0, fz1, fz2, fz3, fz4, fz5, fz6⟩ : w2.cell? ⟨(w.heap.size + 1), 0, none⟩ = some (.int .i64 0) ∧ w2.cell? ⟨(w.heap.size + 1), 1, none⟩ = some (.int .i64 0) ∧ w2.cell? ⟨(w.heap.size + 1), 2, none⟩ = some (.int .i64 0) ∧ w2.cell? ⟨(w.heap.size + 1), 3, none⟩ = some (.int .i64 0) ∧ w2.cell? ⟨(w.heap.size + 1), 4, none⟩ = some (.int .i64 0) ∧ w2.cell? ⟨(w.heap.size + 1), 5, none⟩ = some (.int .i64 0) ∧ w2.cell? ⟨(w.heap.size + 1), 6, none⟩ = some (.int .i64 0) := at7_open Hz.out
    have lz := at7_lt Hz.out
    go_wp2_with fail
    clear fa0 fa1 fa2 fa3 fa4 fa5 fa6 la
    clear fz0 fz1 fz2 fz3 fz4 fz5 fz6 lz
    refine (K1.out _).mono ?_
    rintro e w3 ⟨rfl, hb⟩
    replace Ha := Lib.hid (at7_next Ha.out hb)
    replace Hz := Lib.hid (at7_next Hz.out hb)
    replace BW := Lib.hid (BW.out.trans (hb.mono BW.out.size))
    clear hb
    obtain ⟨fa0, fa1, fa2, fa3, fa4, fa5, fa6⟩ : w3.cell? ⟨w.heap.size, 0, none⟩ = some (.int .i64 (a 0)) ∧ w3.cell? ⟨w.heap.size, 1, none⟩ = some (.int .i64 (a 1)) ∧ w3.cell? ⟨w.heap.size, 2, none⟩ = some (.int .i64 (a 2)) ∧ w3.cell? ⟨w.heap.size, 3, none⟩ = some (.int .i64 (a 3)) ∧ w3.cell? ⟨w.heap.size, 4, none⟩ = some (.int .i64 (a 4)) ∧ w3.cell? ⟨w.heap.size, 5, none⟩ = some (.int .i64 (a 5)) ∧ w3.cell? ⟨w.heap.size, 6, none⟩ = some (.int .i64 (a 6)) := at7_open Ha.out
    have la := at7_lt Ha.out
    go_wp2_with fail
    clear fa0 fa1 fa2 fa3 fa4 fa5 fa6 la
    obtain ⟨W4, hW⟩ : ∃ W, w3.alloc (.cells #[.int .i64 0, .int .i64 0, .int .i64 0, .int .i64 0, .int .i64 0, .int .i64 0, .int .i64 0] 65) = W := ⟨_, rfl⟩
    rw [hW]
    have hk : Below w3.heap.size w3 W4 := by rw [← hW]; exact alloc_keep _ _
    replace Ha := Lib.hid (at7_next Ha.out hk)
    replace Hz := Lib.hid (at7_next Hz.out hk)
    have Hb : Hid (at7 W4 w3.heap.size zD) := Lib.hid (by rw [← hW]; exact at7_alloc w3 zD 65)
    replace BW := Lib.hid (BW.out.trans (hk.mono BW.out.size))
    clear hW hk
    refine (K2.out _).mono ?_
    rintro e w5 ⟨rfl, hb⟩
    replace Ha := Lib.hid (at7_next Ha.out hb)
    replace Hz := Lib.hid (at7_next Hz.out hb)
    replace Hb := Lib.hid (at7_next Hb.out hb)
    replace BW := Lib.hid (BW.out.trans (hb.mono BW.out.size))
    clear hb
    go_wp2_with fail
    obtain ⟨W6, hW⟩ : ∃ W, w5.alloc (.cells #[.int .i64 0, .int .i64 0, .int .i64 0, .int .i64 0, .int .i64 0, .int .i64 0, .int .i64 0] 65) = W := ⟨_, rfl⟩
    rw [hW]
    have hk : Below w5.heap.size w5 W6 := by rw [← hW]; exact alloc_keep _ _
    replace Ha := Lib.hid (at7_next Ha.out hk)
    replace Hz := Lib.hid (at7_next Hz.out hk)
    replace Hb := Lib.hid (at7_next Hb.out hk)
    have Hc : Hid (at7 W6 w5.heap.size zD) := Lib.hid (by rw [← hW]; exact at7_alloc w5 zD 65)
    replace BW := Lib.hid (BW.out.trans (hk.mono BW.out.size))
    clear hW hk
    refine (dimWakes_any _ (hG.below BW.out)).mono ?_
    rintro e w9 ⟨rfl, hb⟩
    replace BW := Lib.hid (BW.out.trans (hb.mono BW.out.size))
    clear hb
    go_wp2_with fail
    go_ret
    exact ⟨rfl, BW.out⟩
  | true =>
    have hb := fun j hj => goodD_at ga j hj
    have hu : goodD (subD zD a) = true := (goodD_iff _).2 (fun j hj => by have := hb j hj; show -200 ≤ 0 - a j ∧ 0 - a j ≤ 200; omega)
    have hs : goodD (scD a (-1)) = true := (goodD_iff _).2 (fun j hj => by have := hb j hj; show -200 ≤ a j * (-1) ∧ a j * (-1) ≤ 200; omega)
    obtain ⟨u, hu1⟩ : ∃ u, subD zD a = u := ⟨_, rfl⟩
    obtain ⟨t, ht⟩ : ∃ t, (powD a (-1)).1 = t := ⟨_, rfl⟩
    have ht0 : powD a (-1) = (t, 0) := by
      rw [← ht, powD, if_pos ga]
      split
      · rfl
      · rw [if_pos (by decide), told_good hs]
    have htu : ∀ j, j < 7 → t j = u j := by
      intro j hj
      rw [← ht, ← hu1, powD, if_pos ga]
      split
      · next h => have := (eqD_iff _ _).1 h j hj; show a j = 0 - a j; rw [this]; rfl
      · rw [if_pos (by decide), told_good hs]; show a j * (-1) = 0 - a j; omega
    have hp1 : powD a 1 = (a, 0) := by
      rw [powD, if_pos ga]
      split
      · rfl
      · rw [if_pos (by decide), scD_one, told_good ga]
    have KG : Hid (∀ w : World, Calls Tryd.prog 46 #[(.agg #[.int .i64 (a 0), .int .i64 (a 1), .int .i64 (a 2), .int .i64 (a 3), .int .i64 (a 4), .int .i64 (a 5), .int .i64 (a 6)])] w fun x w' => x = .returned (.bool true) ∧ Below w.heap.size w w') := Lib.hid (fun w => dgood_at a true ga w)
    have K1 : Hid (∀ w : World, Calls Tryd.prog 41 #[(.agg #[.int .i64 (a 0), .int .i64 (a 1), .int .i64 (a 2), .int .i64 (a 3), .int .i64 (a 4), .int .i64 (a 5), .int .i64 (a 6)]), (.agg #[.int .i64 0, .int .i64 0, .int .i64 0, .int .i64 0, .int .i64 0, .int .i64 0, .int .i64 0])] w fun x w' => x = .returned (.tuple #[(.agg #[.int .i64 (a 0), .int .i64 (a 1), .int .i64 (a 2), .int .i64 (a 3), .int .i64 (a 4), .int .i64 (a 5), .int .i64 (a 6)]), .int .i64 0]) ∧ Below w.heap.size w w') := Lib.hid (fun w => dmul_at a zD a 0 (by rw [mulD, if_pos ga, if_pos goodD_zD, addD_zero, told_good ga]) w)
    have K2 : Hid (∀ w : World, Calls Tryd.prog 42 #[(.agg #[.int .i64 (a 0), .int .i64 (a 1), .int .i64 (a 2), .int .i64 (a 3), .int .i64 (a 4), .int .i64 (a 5), .int .i64 (a 6)]), (.agg #[.int .i64 0, .int .i64 0, .int .i64 0, .int .i64 0, .int .i64 0, .int .i64 0, .int .i64 0])] w fun x w' => x = .returned (.tuple #[(.agg #[.int .i64 (a 0), .int .i64 (a 1), .int .i64 (a 2), .int .i64 (a 3), .int .i64 (a 4), .int .i64 (a 5), .int .i64 (a 6)]), .int .i64 0]) ∧ Below w.heap.size w w') := Lib.hid (fun w => ddiv_at a zD a 0 (by rw [divD, if_pos ga, if_pos goodD_zD, subD_zero, told_good ga]) w)
    have K3 : Hid (∀ w : World, Calls Tryd.prog 42 #[(.agg #[.int .i64 (a 0), .int .i64 (a 1), .int .i64 (a 2), .int .i64 (a 3), .int .i64 (a 4), .int .i64 (a 5), .int .i64 (a 6)]), (.agg #[.int .i64 (a 0), .int .i64 (a 1), .int .i64 (a 2), .int .i64 (a 3), .int .i64 (a 4), .int .i64 (a 5), .int .i64 (a 6)])] w fun x w' => x = .returned (.tuple #[(.agg #[.int .i64 0, .int .i64 0, .int .i64 0, .int .i64 0, .int .i64 0, .int .i64 0, .int .i64 0]), .int .i64 0]) ∧ Below w.heap.size w w') := Lib.hid (fun w => ddiv_at a a zD 0 (by rw [divD, if_pos ga, if_pos ga, subD_self, told_good goodD_zD]) w)
    have K4 : Hid (∀ w : World, Calls Tryd.prog 43 #[(.agg #[.int .i64 (a 0), .int .i64 (a 1), .int .i64 (a 2), .int .i64 (a 3), .int .i64 (a 4), .int .i64 (a 5), .int .i64 (a 6)]), .int .i64 1] w fun x w' => x = .returned (.tuple #[(.agg #[.int .i64 (a 0), .int .i64 (a 1), .int .i64 (a 2), .int .i64 (a 3), .int .i64 (a 4), .int .i64 (a 5), .int .i64 (a 6)]), .int .i64 0]) ∧ Below w.heap.size w w') := Lib.hid (fun w => dpow_at a a 1 0 (by decide) hp1 w)
    have K5 : Hid (∀ w : World, Calls Tryd.prog 43 #[(.agg #[.int .i64 (a 0), .int .i64 (a 1), .int .i64 (a 2), .int .i64 (a 3), .int .i64 (a 4), .int .i64 (a 5), .int .i64 (a 6)]), .int .i64 (-1)] w fun x w' => x = .returned (.tuple #[(.agg #[.int .i64 (t 0), .int .i64 (t 1), .int .i64 (t 2), .int .i64 (t 3), .int .i64 (t 4), .int .i64 (t 5), .int .i64 (t 6)]), .int .i64 0]) ∧ Below w.heap.size w w') := Lib.hid (fun w => dpow_at a t (-1) 0 (by decide) ht0 w)
    have K6 : Hid (∀ w : World, Calls Tryd.prog 42 #[(.agg #[.int .i64 0, .int .i64 0, .int .i64 0, .int .i64 0, .int .i64 0, .int .i64 0, .int .i64 0]), (.agg #[.int .i64 (a 0), .int .i64 (a 1), .int .i64 (a 2), .int .i64 (a 3), .int .i64 (a 4), .int .i64 (a 5), .int .i64 (a 6)])] w fun x w' => x = .returned (.tuple #[(.agg #[.int .i64 (u 0), .int .i64 (u 1), .int .i64 (u 2), .int .i64 (u 3), .int .i64 (u 4), .int .i64 (u 5), .int .i64 (u 6)]), .int .i64 0]) ∧ Below w.heap.size w w') := Lib.hid (fun w => ddiv_at zD a u 0 (by rw [divD, if_pos goodD_zD, if_pos ga, hu1, told_good (hu1 ▸ hu)]) w)
    have q1 : ∀ (d : Nat) (w : World), (Op.equalIn (d + 2) 65 (.agg #[.int .i64 (a 0), .int .i64 (a 1), .int .i64 (a 2), .int .i64 (a 3), .int .i64 (a 4), .int .i64 (a 5), .int .i64 (a 6)]) (.agg #[.int .i64 (a 0), .int .i64 (a 1), .int .i64 (a 2), .int .i64 (a 3), .int .i64 (a 4), .int .i64 (a 5), .int .i64 (a 6)])).run Tryd.prog w = .ok true w := fun d w => eqDim_at d w a a (fun _ _ => rfl)
    have q2 : ∀ (d : Nat) (w : World), (Op.equalIn (d + 2) 65 (.agg #[.int .i64 0, .int .i64 0, .int .i64 0, .int .i64 0, .int .i64 0, .int .i64 0, .int .i64 0]) (.agg #[.int .i64 0, .int .i64 0, .int .i64 0, .int .i64 0, .int .i64 0, .int .i64 0, .int .i64 0])).run Tryd.prog w = .ok true w := fun d w => eqDim_at d w zD zD (fun _ _ => rfl)
    have q3 : ∀ (d : Nat) (w : World), (Op.equalIn (d + 2) 65 (.agg #[.int .i64 (t 0), .int .i64 (t 1), .int .i64 (t 2), .int .i64 (t 3), .int .i64 (t 4), .int .i64 (t 5), .int .i64 (t 6)]) (.agg #[.int .i64 (u 0), .int .i64 (u 1), .int .i64 (u 2), .int .i64 (u 3), .int .i64 (u 4), .int .i64 (u 5), .int .i64 (u 6)])).run Tryd.prog w = .ok true w := fun d w => eqDim_at d w t u htu
    clear ga hb hu hs hu1 ht ht0 htu hp1
    unfold dv
    go_enter Tryd.func14, Tryd.ntmps14
    go_wp2_with fail
    obtain ⟨V, hV⟩ : ∃ V, w.alloc (.cells #[.int .i64 (a 0), .int .i64 (a 1), .int .i64 (a 2), .int .i64 (a 3), .int .i64 (a 4), .int .i64 (a 5), .int .i64 (a 6)] 65) = V := ⟨_, rfl⟩
    rw [hV]
    have hs : V.heap.size = w.heap.size + 1 := by rw [← hV]; simp
    have Ha : Hid (at7 V w.heap.size a) := Lib.hid (by rw [← hV]; exact at7_alloc w a 65)
    replace BW : Hid (Below w.heap.size w V) := Lib.hid (by rw [← hV]; exact alloc_keep _ _)
    clear hV
    obtain ⟨W1, hW⟩ : ∃ W, V.alloc (.cells #[.int .i64 0, .int .i64 0, .int .i64 0, .int .i64 0, .int .i64 0, .int .i64 0, .int .i64 0] 65) = W := ⟨_, rfl⟩
    rw [hW]
    have hk : Below V.heap.size V W1 := by rw [← hW]; exact alloc_keep _ _
    replace Ha := Lib.hid (at7_next Ha.out hk)
    have Hz : Hid (at7 W1 V.heap.size zD) := Lib.hid (by rw [← hW]; exact at7_alloc V zD 65)
    replace BW := Lib.hid (BW.out.trans (hk.mono BW.out.size))
    clear hW hk
    rw [hs] at Hz
    refine (KG.out _).mono ?_
    rintro e w2 ⟨rfl, hb⟩
    replace Ha := Lib.hid (at7_next Ha.out hb)
    replace Hz := Lib.hid (at7_next Hz.out hb)
    replace BW := Lib.hid (BW.out.trans (hb.mono BW.out.size))
    clear hb
    obtain ⟨fa0, fa1, fa2, fa3, fa4, fa5, fa6⟩ : w2.cell? ⟨w.heap.size, 0, none⟩ = some (.int .i64 (a 0)) ∧ w2.cell? ⟨w.heap.size, 1, none⟩ = some (.int .i64 (a 1)) ∧ w2.cell? ⟨w.heap.size, 2, none⟩ = some (.int .i64 (a 2)) ∧ w2.cell? ⟨w.heap.size, 3, none⟩ = some (.int .i64 (a 3)) ∧ w2.cell? ⟨w.heap.size, 4, none⟩ = some (.int .i64 (a 4)) ∧ w2.cell? ⟨w.heap.size, 5, none⟩ = some (.int .i64 (a 5)) ∧ w2.cell? ⟨w.heap.size, 6, none⟩ = some (.int .i64 (a 6)) := at7_open Ha.out
    have la := at7_lt Ha.out
    obtain ⟨fz0, fz1, fz2, fz3, fz4, fz5, fz6⟩ : w2.cell? ⟨(w.heap.size + 1), 0, none⟩ = some (.int .i64 0) ∧ w2.cell? ⟨(w.heap.size + 1), 1, none⟩ = some (.int .i64 0) ∧ w2.cell? ⟨(w.heap.size + 1), 2, none⟩ = some (.int .i64 0) ∧ w2.cell? ⟨(w.heap.size + 1), 3, none⟩ = some (.int .i64 0) ∧ w2.cell? ⟨(w.heap.size + 1), 4, none⟩ = some (.int .i64 0) ∧ w2.cell? ⟨(w.heap.size + 1), 5, none⟩ = some (.int .i64 0) ∧ w2.cell? ⟨(w.heap.size + 1), 6, none⟩ = some (.int .i64 0) := at7_open Hz.out
    have lz := at7_lt Hz.out
    go_wp2_with fail
    clear fa0 fa1 fa2 fa3 fa4 fa5 fa6 la
    clear fz0 fz1 fz2 fz3 fz4 fz5 fz6 lz
    refine (K1.out _).mono ?_
    rintro e w3 ⟨rfl, hb⟩
    replace Ha := Lib.hid (at7_next Ha.out hb)
    replace Hz := Lib.hid (at7_next Hz.out hb)
    replace BW := Lib.hid (BW.out.trans (hb.mono BW.out.size))
    clear hb
    obtain ⟨fa0, fa1, fa2, fa3, fa4, fa5, fa6⟩ : w3.cell? ⟨w.heap.size, 0, none⟩ = some (.int .i64 (a 0)) ∧ w3.cell? ⟨w.heap.size, 1, none⟩ = some (.int .i64 (a 1)) ∧ w3.cell? ⟨w.heap.size, 2, none⟩ = some (.int .i64 (a 2)) ∧ w3.cell? ⟨w.heap.size, 3, none⟩ = some (.int .i64 (a 3)) ∧ w3.cell? ⟨w.heap.size, 4, none⟩ = some (.int .i64 (a 4)) ∧ w3.cell? ⟨w.heap.size, 5, none⟩ = some (.int .i64 (a 5)) ∧ w3.cell? ⟨w.heap.size, 6, none⟩ = some (.int .i64 (a 6)) := at7_open Ha.out
    have la := at7_lt Ha.out
    obtain ⟨fz0, fz1, fz2, fz3, fz4, fz5, fz6⟩ : w3.cell? ⟨(w.heap.size + 1), 0, none⟩ = some (.int .i64 0) ∧ w3.cell? ⟨(w.heap.size + 1), 1, none⟩ = some (.int .i64 0) ∧ w3.cell? ⟨(w.heap.size + 1), 2, none⟩ = some (.int .i64 0) ∧ w3.cell? ⟨(w.heap.size + 1), 3, none⟩ = some (.int .i64 0) ∧ w3.cell? ⟨(w.heap.size + 1), 4, none⟩ = some (.int .i64 0) ∧ w3.cell? ⟨(w.heap.size + 1), 5, none⟩ = some (.int .i64 0) ∧ w3.cell? ⟨(w.heap.size + 1), 6, none⟩ = some (.int .i64 0) := at7_open Hz.out
    have lz := at7_lt Hz.out
    go_wp2_with fail
    clear fa0 fa1 fa2 fa3 fa4 fa5 fa6 la
    clear fz0 fz1 fz2 fz3 fz4 fz5 fz6 lz
    obtain ⟨W4, hW⟩ : ∃ W, w3.alloc (.cells #[.int .i64 (a 0), .int .i64 (a 1), .int .i64 (a 2), .int .i64 (a 3), .int .i64 (a 4), .int .i64 (a 5), .int .i64 (a 6)] 65) = W := ⟨_, rfl⟩
    rw [hW]
    have hk : Below w3.heap.size w3 W4 := by rw [← hW]; exact alloc_keep _ _
    replace Ha := Lib.hid (at7_next Ha.out hk)
    replace Hz := Lib.hid (at7_next Hz.out hk)
    have Hm : Hid (at7 W4 w3.heap.size a) := Lib.hid (by rw [← hW]; exact at7_alloc w3 a 65)
    replace BW := Lib.hid (BW.out.trans (hk.mono BW.out.size))
    clear hW hk
    refine (K2.out _).mono ?_
    rintro e w5 ⟨rfl, hb⟩
    replace Ha := Lib.hid (at7_next Ha.out hb)
    replace Hz := Lib.hid (at7_next Hz.out hb)
    replace Hm := Lib.hid (at7_next Hm.out hb)
    replace BW := Lib.hid (BW.out.trans (hb.mono BW.out.size))
    clear hb
    obtain ⟨fa0, fa1, fa2, fa3, fa4, fa5, fa6⟩ : w5.cell? ⟨w.heap.size, 0, none⟩ = some (.int .i64 (a 0)) ∧ w5.cell? ⟨w.heap.size, 1, none⟩ = some (.int .i64 (a 1)) ∧ w5.cell? ⟨w.heap.size, 2, none⟩ = some (.int .i64 (a 2)) ∧ w5.cell? ⟨w.heap.size, 3, none⟩ = some (.int .i64 (a 3)) ∧ w5.cell? ⟨w.heap.size, 4, none⟩ = some (.int .i64 (a 4)) ∧ w5.cell? ⟨w.heap.size, 5, none⟩ = some (.int .i64 (a 5)) ∧ w5.cell? ⟨w.heap.size, 6, none⟩ = some (.int .i64 (a 6)) := at7_open Ha.out
    have la := at7_lt Ha.out
    go_wp2_with fail
    clear fa0 fa1 fa2 fa3 fa4 fa5 fa6 la
    obtain ⟨W6, hW⟩ : ∃ W, w5.alloc (.cells #[.int .i64 (a 0), .int .i64 (a 1), .int .i64 (a 2), .int .i64 (a 3), .int .i64 (a 4), .int .i64 (a 5), .int .i64 (a 6)] 65) = W := ⟨_, rfl⟩
    rw [hW]
    have hk : Below w5.heap.size w5 W6 := by rw [← hW]; exact alloc_keep _ _
    replace Ha := Lib.hid (at7_next Ha.out hk)
    replace Hz := Lib.hid (at7_next Hz.out hk)
    replace Hm := Lib.hid (at7_next Hm.out hk)
    have Hq : Hid (at7 W6 w5.heap.size a) := Lib.hid (by rw [← hW]; exact at7_alloc w5 a 65)
    replace BW := Lib.hid (BW.out.trans (hk.mono BW.out.size))
    clear hW hk
    refine (K3.out _).mono ?_
    rintro e w7 ⟨rfl, hb⟩
    replace Ha := Lib.hid (at7_next Ha.out hb)
    replace Hz := Lib.hid (at7_next Hz.out hb)
    replace Hm := Lib.hid (at7_next Hm.out hb)
    replace Hq := Lib.hid (at7_next Hq.out hb)
    replace BW := Lib.hid (BW.out.trans (hb.mono BW.out.size))
    clear hb
    obtain ⟨fa0, fa1, fa2, fa3, fa4, fa5, fa6⟩ : w7.cell? ⟨w.heap.size, 0, none⟩ = some (.int .i64 (a 0)) ∧ w7.cell? ⟨w.heap.size, 1, none⟩ = some (.int .i64 (a 1)) ∧ w7.cell? ⟨w.heap.size, 2, none⟩ = some (.int .i64 (a 2)) ∧ w7.cell? ⟨w.heap.size, 3, none⟩ = some (.int .i64 (a 3)) ∧ w7.cell? ⟨w.heap.size, 4, none⟩ = some (.int .i64 (a 4)) ∧ w7.cell? ⟨w.heap.size, 5, none⟩ = some (.int .i64 (a 5)) ∧ w7.cell? ⟨w.heap.size, 6, none⟩ = some (.int .i64 (a 6)) := at7_open Ha.out
    have la := at7_lt Ha.out
    go_wp2_with fail
    clear fa0 fa1 fa2 fa3 fa4 fa5 fa6 la
    obtain ⟨W8, hW⟩ : ∃ W, w7.alloc (.cells #[.int .i64 0, .int .i64 0, .int .i64 0, .int .i64 0, .int .i64 0, .int .i64 0, .int .i64 0] 65) = W := ⟨_, rfl⟩
    rw [hW]
    have hk : Below w7.heap.size w7 W8 := by rw [← hW]; exact alloc_keep _ _
    replace Ha := Lib.hid (at7_next Ha.out hk)
    replace Hz := Lib.hid (at7_next Hz.out hk)
    replace Hm := Lib.hid (at7_next Hm.out hk)
    replace Hq := Lib.hid (at7_next Hq.out hk)
    have Hs : Hid (at7 W8 w7.heap.size zD) := Lib.hid (by rw [← hW]; exact at7_alloc w7 zD 65)
    replace BW := Lib.hid (BW.out.trans (hk.mono BW.out.size))
    clear hW hk
    refine (K4.out _).mono ?_
    rintro e w9 ⟨rfl, hb⟩
    replace Ha := Lib.hid (at7_next Ha.out hb)
    replace Hz := Lib.hid (at7_next Hz.out hb)
    replace Hm := Lib.hid (at7_next Hm.out hb)
    replace Hq := Lib.hid (at7_next Hq.out hb)
    replace Hs := Lib.hid (at7_next Hs.out hb)
    replace BW := Lib.hid (BW.out.trans (hb.mono BW.out.size))
    clear hb
    obtain ⟨fa0, fa1, fa2, fa3, fa4, fa5, fa6⟩ : w9.cell? ⟨w.heap.size, 0, none⟩ = some (.int .i64 (a 0)) ∧ w9.cell? ⟨w.heap.size, 1, none⟩ = some (.int .i64 (a 1)) ∧ w9.cell? ⟨w.heap.size, 2, none⟩ = some (.int .i64 (a 2)) ∧ w9.cell? ⟨w.heap.size, 3, none⟩ = some (.int .i64 (a 3)) ∧ w9.cell? ⟨w.heap.size, 4, none⟩ = some (.int .i64 (a 4)) ∧ w9.cell? ⟨w.heap.size, 5, none⟩ = some (.int .i64 (a 5)) ∧ w9.cell? ⟨w.heap.size, 6, none⟩ = some (.int .i64 (a 6)) := at7_open Ha.out
    have la := at7_lt Ha.out
    go_wp2_with fail
    clear fa0 fa1 fa2 fa3 fa4 fa5 fa6 la
    obtain ⟨W10, hW⟩ : ∃ W, w9.alloc (.cells #[.int .i64 (a 0), .int .i64 (a 1), .int .i64 (a 2), .int .i64 (a 3), .int .i64 (a 4), .int .i64 (a 5), .int .i64 (a 6)] 65) = W := ⟨_, rfl⟩
    rw [hW]
    have hk : Below w9.heap.size w9 W10 := by rw [← hW]; exact alloc_keep _ _
    replace Ha := Lib.hid (at7_next Ha.out hk)
    replace Hz := Lib.hid (at7_next Hz.out hk)
    replace Hm := Lib.hid (at7_next Hm.out hk)
    replace Hq := Lib.hid (at7_next Hq.out hk)
    replace Hs := Lib.hid (at7_next Hs.out hk)
    have Hp : Hid (at7 W10 w9.heap.size a) := Lib.hid (by rw [← hW]; exact at7_alloc w9 a 65)
    replace BW := Lib.hid (BW.out.trans (hk.mono BW.out.size))
    clear hW hk
    refine (K5.out _).mono ?_
    rintro e w11 ⟨rfl, hb⟩
    replace Ha := Lib.hid (at7_next Ha.out hb)
    replace Hz := Lib.hid (at7_next Hz.out hb)
    replace Hm := Lib.hid (at7_next Hm.out hb)
    replace Hq := Lib.hid (at7_next Hq.out hb)
    replace Hs := Lib.hid (at7_next Hs.out hb)
    replace Hp := Lib.hid (at7_next Hp.out hb)
    replace BW := Lib.hid (BW.out.trans (hb.mono BW.out.size))
    clear hb
    obtain ⟨fa0, fa1, fa2, fa3, fa4, fa5, fa6⟩ : w11.cell? ⟨w.heap.size, 0, none⟩ = some (.int .i64 (a 0)) ∧ w11.cell? ⟨w.heap.size, 1, none⟩ = some (.int .i64 (a 1)) ∧ w11.cell? ⟨w.heap.size, 2, none⟩ = some (.int .i64 (a 2)) ∧ w11.cell? ⟨w.heap.size, 3, none⟩ = some (.int .i64 (a 3)) ∧ w11.cell? ⟨w.heap.size, 4, none⟩ = some (.int .i64 (a 4)) ∧ w11.cell? ⟨w.heap.size, 5, none⟩ = some (.int .i64 (a 5)) ∧ w11.cell? ⟨w.heap.size, 6, none⟩ = some (.int .i64 (a 6)) := at7_open Ha.out
    have la := at7_lt Ha.out
    obtain ⟨fz0, fz1, fz2, fz3, fz4, fz5, fz6⟩ : w11.cell? ⟨(w.heap.size + 1), 0, none⟩ = some (.int .i64 0) ∧ w11.cell? ⟨(w.heap.size + 1), 1, none⟩ = some (.int .i64 0) ∧ w11.cell? ⟨(w.heap.size + 1), 2, none⟩ = some (.int .i64 0) ∧ w11.cell? ⟨(w.heap.size + 1), 3, none⟩ = some (.int .i64 0) ∧ w11.cell? ⟨(w.heap.size + 1), 4, none⟩ = some (.int .i64 0) ∧ w11.cell? ⟨(w.heap.size + 1), 5, none⟩ = some (.int .i64 0) ∧ w11.cell? ⟨(w.heap.size + 1), 6, none⟩ = some (.int .i64 0) := at7_open Hz.out
    have lz := at7_lt Hz.out
    go_wp2_with fail
    clear fa0 fa1 fa2 fa3 fa4 fa5 fa6 la
    clear fz0 fz1 fz2 fz3 fz4 fz5 fz6 lz
    obtain ⟨W12, hW⟩ : ∃ W, w11.alloc (.cells #[.int .i64 (t 0), .int .i64 (t 1), .int .i64 (t 2), .int .i64 (t 3), .int .i64 (t 4), .int .i64 (t 5), .int .i64 (t 6)] 65) = W := ⟨_, rfl⟩
    rw [hW]
    have hk : Below w11.heap.size w11 W12 := by rw [← hW]; exact alloc_keep _ _
    replace Ha := Lib.hid (at7_next Ha.out hk)
    replace Hz := Lib.hid (at7_next Hz.out hk)
    replace Hm := Lib.hid (at7_next Hm.out hk)
    replace Hq := Lib.hid (at7_next Hq.out hk)
    replace Hs := Lib.hid (at7_next Hs.out hk)
    replace Hp := Lib.hid (at7_next Hp.out hk)
    have Ht : Hid (at7 W12 w11.heap.size t) := Lib.hid (by rw [← hW]; exact at7_alloc w11 t 65)
    replace BW := Lib.hid (BW.out.trans (hk.mono BW.out.size))
    clear hW hk
    refine (K6.out _).mono ?_
    rintro e w13 ⟨rfl, hb⟩
    replace Ha := Lib.hid (at7_next Ha.out hb)
    replace Hz := Lib.hid (at7_next Hz.out hb)
    replace Hm := Lib.hid (at7_next Hm.out hb)
    replace Hq := Lib.hid (at7_next Hq.out hb)
    replace Hs := Lib.hid (at7_next Hs.out hb)
    replace Hp := Lib.hid (at7_next Hp.out hb)
    replace Ht := Lib.hid (at7_next Ht.out hb)
    replace BW := Lib.hid (BW.out.trans (hb.mono BW.out.size))
    clear hb
    obtain ⟨fm0, fm1, fm2, fm3, fm4, fm5, fm6⟩ : w13.cell? ⟨w3.heap.size, 0, none⟩ = some (.int .i64 (a 0)) ∧ w13.cell? ⟨w3.heap.size, 1, none⟩ = some (.int .i64 (a 1)) ∧ w13.cell? ⟨w3.heap.size, 2, none⟩ = some (.int .i64 (a 2)) ∧ w13.cell? ⟨w3.heap.size, 3, none⟩ = some (.int .i64 (a 3)) ∧ w13.cell? ⟨w3.heap.size, 4, none⟩ = some (.int .i64 (a 4)) ∧ w13.cell? ⟨w3.heap.size, 5, none⟩ = some (.int .i64 (a 5)) ∧ w13.cell? ⟨w3.heap.size, 6, none⟩ = some (.int .i64 (a 6)) := at7_open Hm.out
    have lm := at7_lt Hm.out
    obtain ⟨fa0, fa1, fa2, fa3, fa4, fa5, fa6⟩ : w13.cell? ⟨w.heap.size, 0, none⟩ = some (.int .i64 (a 0)) ∧ w13.cell? ⟨w.heap.size, 1, none⟩ = some (.int .i64 (a 1)) ∧ w13.cell? ⟨w.heap.size, 2, none⟩ = some (.int .i64 (a 2)) ∧ w13.cell? ⟨w.heap.size, 3, none⟩ = some (.int .i64 (a 3)) ∧ w13.cell? ⟨w.heap.size, 4, none⟩ = some (.int .i64 (a 4)) ∧ w13.cell? ⟨w.heap.size, 5, none⟩ = some (.int .i64 (a 5)) ∧ w13.cell? ⟨w.heap.size, 6, none⟩ = some (.int .i64 (a 6)) := at7_open Ha.out
    have la := at7_lt Ha.out
    obtain ⟨fq0, fq1, fq2, fq3, fq4, fq5, fq6⟩ : w13.cell? ⟨w5.heap.size, 0, none⟩ = some (.int .i64 (a 0)) ∧ w13.cell? ⟨w5.heap.size, 1, none⟩ = some (.int .i64 (a 1)) ∧ w13.cell? ⟨w5.heap.size, 2, none⟩ = some (.int .i64 (a 2)) ∧ w13.cell? ⟨w5.heap.size, 3, none⟩ = some (.int .i64 (a 3)) ∧ w13.cell? ⟨w5.heap.size, 4, none⟩ = some (.int .i64 (a 4)) ∧ w13.cell? ⟨w5.heap.size, 5, none⟩ = some (.int .i64 (a 5)) ∧ w13.cell? ⟨w5.heap.size, 6, none⟩ = some (.int .i64 (a 6)) := at7_open Hq.out
    have lq := at7_lt Hq.out
    obtain ⟨fs0, fs1, fs2, fs3, fs4, fs5, fs6⟩ : w13.cell? ⟨w7.heap.size, 0, none⟩ = some (.int .i64 0) ∧ w13.cell? ⟨w7.heap.size, 1, none⟩ = some (.int .i64 0) ∧ w13.cell? ⟨w7.heap.size, 2, none⟩ = some (.int .i64 0) ∧ w13.cell? ⟨w7.heap.size, 3, none⟩ = some (.int .i64 0) ∧ w13.cell? ⟨w7.heap.size, 4, none⟩ = some (.int .i64 0) ∧ w13.cell? ⟨w7.heap.size, 5, none⟩ = some (.int .i64 0) ∧ w13.cell? ⟨w7.heap.size, 6, none⟩ = some (.int .i64 0) := at7_open Hs.out
    have ls := at7_lt Hs.out
    obtain ⟨fz0, fz1, fz2, fz3, fz4, fz5, fz6⟩ : w13.cell? ⟨(w.heap.size + 1), 0, none⟩ = some (.int .i64 0) ∧ w13.cell? ⟨(w.heap.size + 1), 1, none⟩ = some (.int .i64 0) ∧ w13.cell? ⟨(w.heap.size + 1), 2, none⟩ = some (.int .i64 0) ∧ w13.cell? ⟨(w.heap.size + 1), 3, none⟩ = some (.int .i64 0) ∧ w13.cell? ⟨(w.heap.size + 1), 4, none⟩ = some (.int .i64 0) ∧ w13.cell? ⟨(w.heap.size + 1), 5, none⟩ = some (.int .i64 0) ∧ w13.cell? ⟨(w.heap.size + 1), 6, none⟩ = some (.int .i64 0) := at7_open Hz.out
    have lz := at7_lt Hz.out
    obtain ⟨fp0, fp1, fp2, fp3, fp4, fp5, fp6⟩ : w13.cell? ⟨w9.heap.size, 0, none⟩ = some (.int .i64 (a 0)) ∧ w13.cell? ⟨w9.heap.size, 1, none⟩ = some (.int .i64 (a 1)) ∧ w13.cell? ⟨w9.heap.size, 2, none⟩ = some (.int .i64 (a 2)) ∧ w13.cell? ⟨w9.heap.size, 3, none⟩ = some (.int .i64 (a 3)) ∧ w13.cell? ⟨w9.heap.size, 4, none⟩ = some (.int .i64 (a 4)) ∧ w13.cell? ⟨w9.heap.size, 5, none⟩ = some (.int .i64 (a 5)) ∧ w13.cell? ⟨w9.heap.size, 6, none⟩ = some (.int .i64 (a 6)) := at7_open Hp.out
    have lp := at7_lt Hp.out
    obtain ⟨ft0, ft1, ft2, ft3, ft4, ft5, ft6⟩ : w13.cell? ⟨w11.heap.size, 0, none⟩ = some (.int .i64 (t 0)) ∧ w13.cell? ⟨w11.heap.size, 1, none⟩ = some (.int .i64 (t 1)) ∧ w13.cell? ⟨w11.heap.size, 2, none⟩ = some (.int .i64 (t 2)) ∧ w13.cell? ⟨w11.heap.size, 3, none⟩ = some (.int .i64 (t 3)) ∧ w13.cell? ⟨w11.heap.size, 4, none⟩ = some (.int .i64 (t 4)) ∧ w13.cell? ⟨w11.heap.size, 5, none⟩ = some (.int .i64 (t 5)) ∧ w13.cell? ⟨w11.heap.size, 6, none⟩ = some (.int .i64 (t 6)) := at7_open Ht.out
    have lt := at7_lt Ht.out
    go_wp2_with fail
    clear fm0 fm1 fm2 fm3 fm4 fm5 fm6 lm
    clear fa0 fa1 fa2 fa3 fa4 fa5 fa6 la
    clear fq0 fq1 fq2 fq3 fq4 fq5 fq6 lq
    clear fs0 fs1 fs2 fs3 fs4 fs5 fs6 ls
    clear fz0 fz1 fz2 fz3 fz4 fz5 fz6 lz
    clear fp0 fp1 fp2 fp3 fp4 fp5 fp6 lp
    clear ft0 ft1 ft2 ft3 ft4 ft5 ft6 lt
    obtain ⟨W14, hW⟩ : ∃ W, w13.alloc (.cells #[.int .i64 (u 0), .int .i64 (u 1), .int .i64 (u 2), .int .i64 (u 3), .int .i64 (u 4), .int .i64 (u 5), .int .i64 (u 6)] 65) = W := ⟨_, rfl⟩
    rw [hW]
    have hk : Below w13.heap.size w13 W14 := by rw [← hW]; exact alloc_keep _ _
    replace Ha := Lib.hid (at7_next Ha.out hk)
    replace Hz := Lib.hid (at7_next Hz.out hk)
    replace Hm := Lib.hid (at7_next Hm.out hk)
    replace Hq := Lib.hid (at7_next Hq.out hk)
    replace Hs := Lib.hid (at7_next Hs.out hk)
    replace Hp := Lib.hid (at7_next Hp.out hk)
    replace Ht := Lib.hid (at7_next Ht.out hk)
    have Hu : Hid (at7 W14 w13.heap.size u) := Lib.hid (by rw [← hW]; exact at7_alloc w13 u 65)
    replace BW := Lib.hid (BW.out.trans (hk.mono BW.out.size))
    clear hW hk
    refine (dimWakes_any _ (hG.below BW.out)).mono ?_
    rintro e w9 ⟨rfl, hb⟩
    replace BW := Lib.hid (BW.out.trans (hb.mono BW.out.size))
    clear hb
    go_wp2_with fail
    go_ret
    exact ⟨rfl, BW.out⟩
end Go.Proofs.YtcajdkncohcaeaaDoor
