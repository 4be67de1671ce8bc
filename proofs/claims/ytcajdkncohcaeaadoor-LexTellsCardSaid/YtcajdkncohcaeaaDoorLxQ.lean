import Derived.Test.YtcajdkncohcaeaaDoorLxP
namespace Go.Proofs.YtcajdkncohcaeaaDoor
set_option linter.unusedVariables false
set_option linter.unusedSimpArgs false
open Go.RowKit Go.Proofs.YtcajdkncohcaeaaDoorW.PrintWords

theorem hasPrefix_drop (s : ByteArray) (m : Nat) (c : UInt8) : Lib.hasPrefix (s.data.toList.drop m) [c] = if h : m < s.size then s[m] == c else false := by
  split
  · rename_i h
    rw [drop_cons s m h]; simp [Lib.hasPrefix]
    rw [Bool.eq_iff_iff]; simp; exact eq_comm
  · rename_i h
    rw [List.drop_of_length_le (by rw [← Lib.size_eq]; omega)]; rfl
theorem expL_cases (s : ByteArray) (m : Nat) :
    (s.size ≤ m ∧ expL (s.data.toList.drop m) = 0) ∨ (∃ h : m < s.size, s[m] ≠ 101 ∧ expL (s.data.toList.drop m) = 0) ∨
    (∃ h : m < s.size, s[m] = 101 ∧ s.size ≤ m + 1 ∧ runL (s.data.toList.drop (m + 1)) = 0 ∧ expL (s.data.toList.drop m) = 0) ∨
    (∃ (h : m < s.size) (h' : m + 1 < s.size) (k : Nat), s[m] = 101 ∧ s[m + 1] ≠ 45 ∧ runL (s.data.toList.drop (m + 1)) = k ∧ expL (s.data.toList.drop m) = if k = 0 then 0 else min k 3 + 1) ∨
    (∃ (h : m < s.size) (h' : m + 1 < s.size) (k : Nat), s[m] = 101 ∧ s[m + 1] = 45 ∧ runL (s.data.toList.drop (m + 2)) = k ∧ expL (s.data.toList.drop m) = if k = 0 then 0 else min k 3 + 2) := by
  by_cases h : m < s.size
  · right
    have hp := hasPrefix_drop s m 101
    rw [dif_pos h] at hp
    by_cases he : s[m] = 101
    · right
      have hp1 : Lib.hasPrefix (s.data.toList.drop m) [101] = true := by rw [hp, he]; rfl
      by_cases h' : m + 1 < s.size
      · right
        have hq := hasPrefix_drop s (m + 1) 45
        rw [dif_pos h'] at hq
        by_cases hm : s[m + 1] = 45
        · right
          refine ⟨h, h', _, he, hm, rfl, ?_⟩
          rw [expL, if_pos hp1]
          simp only [List.drop_drop]
          rw [if_pos (by rw [hq, hm]; rfl)]
        · left
          refine ⟨h, h', _, he, hm, rfl, ?_⟩
          rw [expL, if_pos hp1]
          simp only [List.drop_drop]
          rw [if_neg (by rw [hq]; simpa using hm)]
      · left
        have hnil : s.data.toList.drop (m + 1) = [] := List.drop_of_length_le (by rw [← Lib.size_eq]; omega)
        refine ⟨h, he, by omega, by rw [hnil]; rfl, ?_⟩
        rw [expL, if_pos hp1]
        simp only [List.drop_drop, hnil]; rfl
    · left
      refine ⟨h, he, ?_⟩
      rw [expL, if_neg (by rw [hp]; simpa using he)]
  · left
    refine ⟨by omega, ?_⟩
    rw [List.drop_of_length_le (by rw [← Lib.size_eq]; omega)]; rfl
theorem u8_ne (c d : UInt8) (n : Nat) (hd : d.toNat = n) (h : c ≠ d) : ((c.toNat : Int) == (n : Int)) = false := by
  simp; intro he; exact h (UInt8.toNat_inj.1 (by omega))
theorem u8_eq (c d : UInt8) (n : Nat) (hd : d.toNat = n) (h : c = d) : ((c.toNat : Int) == (n : Int)) = true := by
  subst h; simp; omega

/-- run from a place that the walk spells in its own way -/
theorem rrun_at (s : ByteArray) (k : Nat) (hs : s.size ≤ 140737488351232) (hk : k ≤ s.size) (r : Nat) (hr : runL (s.data.toList.drop k) = r) (a : Int) (ha : a = k) (w : World) :
    Calls Tryd.prog 76 #[.string s, .int .i64 a] w fun e w' => e = .returned (.int .i64 r) ∧ w = w' := by
  subst ha; rw [← hr]; exact rrun_any s k w hs hk

set_option maxRecDepth 20000 in
set_option maxHeartbeats 8000000 in
theorem rlength_any (s : ByteArray) (w : World) (hs : s.size ≤ 140737488351232) :
    Calls Tryd.prog 55 #[.string s] w fun e w' => e = .returned (.int .i64 (lenL s.data.toList)) ∧ w = w' := by
  have hsz := Lib.size_eq s
  obtain ⟨n, hn⟩ : ∃ n, runL s.data.toList = n := ⟨_, rfl⟩
  have hn1 : n ≤ s.size := by rw [← hn, hsz]; exact runL_le _
  have R0 := Lib.hid (rrun_at s 0 hs (Nat.zero_le _) n (by rw [List.drop_zero, hn]) 0 rfl)
  by_cases hn0 : n = 0
  · have HF : Hid (lenL s.data.toList = 0) := Lib.hid (by rw [lenL, hn, if_pos hn0])
    subst hn0
    clear hsz hn
    go_enter Tryd.func55, Tryd.ntmps55
    go_wp2_with (go_at_call 76; (with_reducible refine (R0.out _).mono ?_); rintro e w' ⟨rfl, rfl⟩)
    go_ret
    exact ⟨by rw [HF.out]; rfl, rfl⟩
  · have e0 : ((n : Int) == 0) = false := by simp; omega
    have HL : Hid (lenL s.data.toList = fracL s.data.toList n + expL (s.data.toList.drop (fracL s.data.toList n))) := Lib.hid (by rw [lenL, hn, if_neg hn0])
    have hp := hasPrefix_drop s n 46
    have hA : (s.size ≤ n ∧ fracL s.data.toList n = n) ∨ (∃ h : n < s.size, s[n] ≠ 46 ∧ fracL s.data.toList n = n) ∨
        (∃ (h : n < s.size) (k : Nat), s[n] = 46 ∧ runL (s.data.toList.drop (n + 1)) = k ∧ n + 1 + k ≤ s.size ∧ ((k = 0 ∧ fracL s.data.toList n = n) ∨ (0 < k ∧ fracL s.data.toList n = n + (1 + k)))) := by
      by_cases h : n < s.size
      · right
        rw [dif_pos h] at hp
        by_cases hd : s[n] = 46
        · right
          have hr := runL_le (s.data.toList.drop (n + 1))
          rw [List.length_drop, ← hsz] at hr
          refine ⟨h, _, hd, rfl, by omega, ?_⟩
          have hb : (s[n] == (46 : UInt8)) = true := by rw [hd]; rfl
          rw [fracL, hp, hb]
          rcases Nat.eq_zero_or_pos (runL (s.data.toList.drop (n + 1))) with hz | hz
          · left; exact ⟨hz, by rw [hz]; simp⟩
          · right; exact ⟨hz, by simp [hz]⟩
        · left
          have hb : (s[n] == (46 : UInt8)) = false := by simpa using hd
          exact ⟨h, hd, by rw [fracL, hp, hb]; rfl⟩
      · left
        rw [dif_neg h] at hp
        exact ⟨by omega, by rw [fracL, hp]; rfl⟩
    clear hp hn hsz
    rcases hA with ⟨a1, a2⟩ | ⟨a0, a1, a2⟩ | ⟨a0, k, a1, a3, a4, ⟨a5, a6⟩ | ⟨a5, a6⟩⟩
    · have HM : Hid (lenL s.data.toList = n + expL (s.data.toList.drop n)) := Lib.hid (by rw [HL.out, a2])
      obtain ⟨m, hm⟩ : ∃ m, m = n := ⟨_, rfl⟩
      subst hm
      have HF : Hid (lenL s.data.toList = m) := Lib.hid (by rw [HM.out, List.drop_of_length_le (by rw [← Lib.size_eq]; omega)]; rfl)
      clear a2 HL
      go_enter Tryd.func55, Tryd.ntmps55
      go_wp2_with (first | (go_at_call 76; (with_reducible refine (R0.out _).mono ?_); rintro e w' ⟨rfl, rfl⟩))
      go_ret
      exact ⟨by rw [HF.out]; first | rfl | (congr 2; push_cast; omega) | (simp; omega), rfl⟩
    · have HM : Hid (lenL s.data.toList = n + expL (s.data.toList.drop n)) := Lib.hid (by rw [HL.out, a2])
      have y1 : ((s[n].toNat : Int) == 46) = false := u8_ne _ 46 46 rfl a1
      obtain ⟨m, hm⟩ : ∃ m, m = n := ⟨_, rfl⟩
      subst hm
      have hE := expL_cases s m
      clear a1 a2 HL
      rcases hE with ⟨g1, g2⟩ | ⟨h, g1, g2⟩ | ⟨h, g1, g2, g3, g4⟩ | ⟨h, h', k2, g1, g2, g3, g4⟩ | ⟨h, h', k2, g1, g2, g3, g4⟩
      · have HF : Hid (lenL s.data.toList = m) := Lib.hid (by rw [HM.out, g2]; rfl)
        clear g2
        go_enter Tryd.func55, Tryd.ntmps55
        go_wp2_with (first | (go_at_call 76; (with_reducible refine (R0.out _).mono ?_); rintro e w' ⟨rfl, rfl⟩))
        all_goals (go_ret; exact ⟨by rw [HF.out]; first | rfl | (congr 2; push_cast; omega) | (simp; omega), rfl⟩)
      · have HF : Hid (lenL s.data.toList = m) := Lib.hid (by rw [HM.out, g2]; rfl)
        have x1 : ((s[m].toNat : Int) == 101) = false := u8_ne _ 101 101 rfl g1
        clear g1 g2
        go_enter Tryd.func55, Tryd.ntmps55
        go_wp2_with (first | (go_at_call 76; (with_reducible refine (R0.out _).mono ?_); rintro e w' ⟨rfl, rfl⟩))
        all_goals (go_ret; exact ⟨by rw [HF.out]; first | rfl | (congr 2; push_cast; omega) | (simp; omega), rfl⟩)
      · have HF : Hid (lenL s.data.toList = m) := Lib.hid (by rw [HM.out, g4]; rfl)
        have x1 : ((s[m].toNat : Int) == 101) = true := u8_eq _ 101 101 rfl g1
        have R2 := Lib.hid (rrun_at s (m + 1) hs h 0 g3 ((m : Int) + 1) (by omega))
        clear g1 g3 g4
        go_enter Tryd.func55, Tryd.ntmps55
        go_wp2_with (first | (go_at_call 76; (with_reducible refine (R0.out _).mono ?_); rintro e w' ⟨rfl, rfl⟩) | (go_at_call 76; (with_reducible refine (R2.out _).mono ?_); rintro e w' ⟨rfl, rfl⟩))
        all_goals (go_ret; exact ⟨by rw [HF.out]; first | rfl | (congr 2; push_cast; omega) | (simp; omega), rfl⟩)
      · have hk2 : m + 1 + k2 ≤ s.size := by have := runL_le (s.data.toList.drop (m + 1)); rw [g3, List.length_drop, ← Lib.size_eq] at this; omega
        have x1 : ((s[m].toNat : Int) == 101) = true := u8_eq _ 101 101 rfl g1
        have x2 : ((s[m + 1].toNat : Int) == 45) = false := u8_ne _ 45 45 rfl g2
        have R2 := Lib.hid (rrun_at s (m + 1) hs h k2 g3 ((m : Int) + 1) (by omega))
        have HF : Hid (lenL s.data.toList = m + if k2 = 0 then 0 else min k2 3 + 1) := Lib.hid (by rw [HM.out, g4])
        clear g1 g2 g3 g4
        rcases (by omega : k2 = 0 ∨ (0 < k2 ∧ k2 < 3) ∨ 3 ≤ k2) with z | ⟨z, z'⟩ | z
        · subst z
          go_enter Tryd.func55, Tryd.ntmps55
          go_wp2_with (first | (go_at_call 76; (with_reducible refine (R0.out _).mono ?_); rintro e w' ⟨rfl, rfl⟩) | (go_at_call 76; (with_reducible refine (R2.out _).mono ?_); rintro e w' ⟨rfl, rfl⟩))
          all_goals (go_ret; exact ⟨by rw [HF.out]; first | rfl | (congr 2; push_cast; omega) | (simp; omega), rfl⟩)
        · have HF2 := Lib.hid (HF.out.trans (by rw [if_neg (by omega), Nat.min_eq_left (by omega)] : _ = m + (k2 + 1)))
          have e1 : min (k2 : Int) 3 = k2 := by omega
          clear HF
          have HF := HF2
          go_enter Tryd.func55, Tryd.ntmps55
          go_wp2_with (first | (go_at_call 76; (with_reducible refine (R0.out _).mono ?_); rintro e w' ⟨rfl, rfl⟩) | (go_at_call 76; (with_reducible refine (R2.out _).mono ?_); rintro e w' ⟨rfl, rfl⟩))
          all_goals (go_ret; exact ⟨by rw [HF.out]; first | rfl | (congr 2; push_cast; omega) | (simp; omega), rfl⟩)
        · have HF2 := Lib.hid (HF.out.trans (by rw [if_neg (by omega), Nat.min_eq_right (by omega)] : _ = m + (3 + 1)))
          have e1 : min (k2 : Int) 3 = 3 := by omega
          clear HF
          have HF := HF2
          go_enter Tryd.func55, Tryd.ntmps55
          go_wp2_with (first | (go_at_call 76; (with_reducible refine (R0.out _).mono ?_); rintro e w' ⟨rfl, rfl⟩) | (go_at_call 76; (with_reducible refine (R2.out _).mono ?_); rintro e w' ⟨rfl, rfl⟩))
          all_goals (go_ret; exact ⟨by rw [HF.out]; first | rfl | (congr 2; push_cast; omega) | (simp; omega), rfl⟩)
      · have hk2 : m + 2 + k2 ≤ s.size := by have := runL_le (s.data.toList.drop (m + 2)); rw [g3, List.length_drop, ← Lib.size_eq] at this; omega
        have x1 : ((s[m].toNat : Int) == 101) = true := u8_eq _ 101 101 rfl g1
        have x2 : ((s[m + 1].toNat : Int) == 45) = true := u8_eq _ 45 45 rfl g2
        have R2 := Lib.hid (rrun_at s (m + 2) hs h' k2 g3 ((m : Int) + 1 + 1) (by omega))
        have HF : Hid (lenL s.data.toList = m + if k2 = 0 then 0 else min k2 3 + 2) := Lib.hid (by rw [HM.out, g4])
        clear g1 g2 g3 g4
        rcases (by omega : k2 = 0 ∨ (0 < k2 ∧ k2 < 3) ∨ 3 ≤ k2) with z | ⟨z, z'⟩ | z
        · subst z
          go_enter Tryd.func55, Tryd.ntmps55
          go_wp2_with (first | (go_at_call 76; (with_reducible refine (R0.out _).mono ?_); rintro e w' ⟨rfl, rfl⟩) | (go_at_call 76; (with_reducible refine (R2.out _).mono ?_); rintro e w' ⟨rfl, rfl⟩))
          all_goals (go_ret; exact ⟨by rw [HF.out]; first | rfl | (congr 2; push_cast; omega) | (simp; omega), rfl⟩)
        · have HF2 := Lib.hid (HF.out.trans (by rw [if_neg (by omega), Nat.min_eq_left (by omega)] : _ = m + (k2 + 2)))
          have e1 : min (k2 : Int) 3 = k2 := by omega
          clear HF
          have HF := HF2
          go_enter Tryd.func55, Tryd.ntmps55
          go_wp2_with (first | (go_at_call 76; (with_reducible refine (R0.out _).mono ?_); rintro e w' ⟨rfl, rfl⟩) | (go_at_call 76; (with_reducible refine (R2.out _).mono ?_); rintro e w' ⟨rfl, rfl⟩))
          all_goals (go_ret; exact ⟨by rw [HF.out]; first | rfl | (congr 2; push_cast; omega) | (simp; omega), rfl⟩)
        · have HF2 := Lib.hid (HF.out.trans (by rw [if_neg (by omega), Nat.min_eq_right (by omega)] : _ = m + (3 + 2)))
          have e1 : min (k2 : Int) 3 = 3 := by omega
          clear HF
          have HF := HF2
          go_enter Tryd.func55, Tryd.ntmps55
          go_wp2_with (first | (go_at_call 76; (with_reducible refine (R0.out _).mono ?_); rintro e w' ⟨rfl, rfl⟩) | (go_at_call 76; (with_reducible refine (R2.out _).mono ?_); rintro e w' ⟨rfl, rfl⟩))
          all_goals (go_ret; exact ⟨by rw [HF.out]; first | rfl | (congr 2; push_cast; omega) | (simp; omega), rfl⟩)
    · have HM : Hid (lenL s.data.toList = n + expL (s.data.toList.drop n)) := Lib.hid (by rw [HL.out, a6])
      have y1 : ((s[n].toNat : Int) == 46) = true := u8_eq _ 46 46 rfl a1
      subst a5
      have R1 := Lib.hid (rrun_at s (n + 1) hs a0 0 a3 ((n : Int) + 1) (by omega))
      obtain ⟨m, hm⟩ : ∃ m, m = n := ⟨_, rfl⟩
      subst hm
      have HF : Hid (lenL s.data.toList = m) := Lib.hid (by
        have hp := hasPrefix_drop s m 101
        rw [dif_pos a0, a1] at hp
        rw [HM.out, expL, if_neg (by rw [hp]; decide)]; rfl)
      have x1 : ((s[m].toNat : Int) == 101) = false := u8_ne _ 101 101 rfl (by rw [a1]; decide)
      clear a1 a3 a6 HL
      go_enter Tryd.func55, Tryd.ntmps55
      go_wp2_with (first | (go_at_call 76; (with_reducible refine (R0.out _).mono ?_); rintro e w' ⟨rfl, rfl⟩) | (go_at_call 76; (with_reducible refine (R1.out _).mono ?_); rintro e w' ⟨rfl, rfl⟩))
      go_ret
      exact ⟨by rw [HF.out]; first | rfl | (congr 2; push_cast; omega) | (simp; omega), rfl⟩
    · obtain ⟨m, hm⟩ : ∃ m, n + (1 + k) = m := ⟨_, rfl⟩
      rw [hm] at a6
      have HM : Hid (lenL s.data.toList = m + expL (s.data.toList.drop m)) := Lib.hid (by rw [HL.out, a6])
      have y1 : ((s[n].toNat : Int) == 46) = true := u8_eq _ 46 46 rfl a1
      have y2 : decide ((0 : Int) < (k : Int)) = true := by simp; omega
      have hmi : (n : Int) + (1 + (k : Int)) = (m : Int) := by omega
      have hms : m ≤ s.size := by omega
      have R1 := Lib.hid (rrun_at s (n + 1) hs a0 k a3 ((n : Int) + 1) (by omega))
      have hE := expL_cases s m
      clear a1 a3 a6 HL hm
      rcases hE with ⟨g1, g2⟩ | ⟨h, g1, g2⟩ | ⟨h, g1, g2, g3, g4⟩ | ⟨h, h', k2, g1, g2, g3, g4⟩ | ⟨h, h', k2, g1, g2, g3, g4⟩
      · have HF : Hid (lenL s.data.toList = m) := Lib.hid (by rw [HM.out, g2]; rfl)
        clear g2
        go_enter Tryd.func55, Tryd.ntmps55
        go_wp2_with (first | (go_at_call 76; (with_reducible refine (R0.out _).mono ?_); rintro e w' ⟨rfl, rfl⟩) | (go_at_call 76; (with_reducible refine (R1.out _).mono ?_); rintro e w' ⟨rfl, rfl⟩))
        all_goals (go_ret; exact ⟨by rw [HF.out]; first | rfl | (congr 2; push_cast; omega) | (simp; omega), rfl⟩)
      · have HF : Hid (lenL s.data.toList = m) := Lib.hid (by rw [HM.out, g2]; rfl)
        have x1 : ((s[m].toNat : Int) == 101) = false := u8_ne _ 101 101 rfl g1
        clear g1 g2
        go_enter Tryd.func55, Tryd.ntmps55
        go_wp2_with (first | (go_at_call 76; (with_reducible refine (R0.out _).mono ?_); rintro e w' ⟨rfl, rfl⟩) | (go_at_call 76; (with_reducible refine (R1.out _).mono ?_); rintro e w' ⟨rfl, rfl⟩))
        all_goals (go_ret; exact ⟨by rw [HF.out]; first | rfl | (congr 2; push_cast; omega) | (simp; omega), rfl⟩)
      · have HF : Hid (lenL s.data.toList = m) := Lib.hid (by rw [HM.out, g4]; rfl)
        have x1 : ((s[m].toNat : Int) == 101) = true := u8_eq _ 101 101 rfl g1
        have R2 := Lib.hid (rrun_at s (m + 1) hs h 0 g3 ((m : Int) + 1) (by omega))
        clear g1 g3 g4
        go_enter Tryd.func55, Tryd.ntmps55
        go_wp2_with (first | (go_at_call 76; (with_reducible refine (R0.out _).mono ?_); rintro e w' ⟨rfl, rfl⟩) | (go_at_call 76; (with_reducible refine (R1.out _).mono ?_); rintro e w' ⟨rfl, rfl⟩) | (go_at_call 76; (with_reducible refine (R2.out _).mono ?_); rintro e w' ⟨rfl, rfl⟩))
        all_goals (go_ret; exact ⟨by rw [HF.out]; first | rfl | (congr 2; push_cast; omega) | (simp; omega), rfl⟩)
      · have hk2 : m + 1 + k2 ≤ s.size := by have := runL_le (s.data.toList.drop (m + 1)); rw [g3, List.length_drop, ← Lib.size_eq] at this; omega
        have x1 : ((s[m].toNat : Int) == 101) = true := u8_eq _ 101 101 rfl g1
        have x2 : ((s[m + 1].toNat : Int) == 45) = false := u8_ne _ 45 45 rfl g2
        have R2 := Lib.hid (rrun_at s (m + 1) hs h k2 g3 ((m : Int) + 1) (by omega))
        have HF : Hid (lenL s.data.toList = m + if k2 = 0 then 0 else min k2 3 + 1) := Lib.hid (by rw [HM.out, g4])
        clear g1 g2 g3 g4
        rcases (by omega : k2 = 0 ∨ (0 < k2 ∧ k2 < 3) ∨ 3 ≤ k2) with z | ⟨z, z'⟩ | z
        · subst z
          go_enter Tryd.func55, Tryd.ntmps55
          go_wp2_with (first | (go_at_call 76; (with_reducible refine (R0.out _).mono ?_); rintro e w' ⟨rfl, rfl⟩) | (go_at_call 76; (with_reducible refine (R1.out _).mono ?_); rintro e w' ⟨rfl, rfl⟩) | (go_at_call 76; (with_reducible refine (R2.out _).mono ?_); rintro e w' ⟨rfl, rfl⟩))
          all_goals (go_ret; exact ⟨by rw [HF.out]; first | rfl | (congr 2; push_cast; omega) | (simp; omega), rfl⟩)
        · have HF2 := Lib.hid (HF.out.trans (by rw [if_neg (by omega), Nat.min_eq_left (by omega)] : _ = m + (k2 + 1)))
          have e1 : min (k2 : Int) 3 = k2 := by omega
          clear HF
          have HF := HF2
          go_enter Tryd.func55, Tryd.ntmps55
          go_wp2_with (first | (go_at_call 76; (with_reducible refine (R0.out _).mono ?_); rintro e w' ⟨rfl, rfl⟩) | (go_at_call 76; (with_reducible refine (R1.out _).mono ?_); rintro e w' ⟨rfl, rfl⟩) | (go_at_call 76; (with_reducible refine (R2.out _).mono ?_); rintro e w' ⟨rfl, rfl⟩))
          all_goals (go_ret; exact ⟨by rw [HF.out]; first | rfl | (congr 2; push_cast; omega) | (simp; omega), rfl⟩)
        · have HF2 := Lib.hid (HF.out.trans (by rw [if_neg (by omega), Nat.min_eq_right (by omega)] : _ = m + (3 + 1)))
          have e1 : min (k2 : Int) 3 = 3 := by omega
          clear HF
          have HF := HF2
          go_enter Tryd.func55, Tryd.ntmps55
          go_wp2_with (first | (go_at_call 76; (with_reducible refine (R0.out _).mono ?_); rintro e w' ⟨rfl, rfl⟩) | (go_at_call 76; (with_reducible refine (R1.out _).mono ?_); rintro e w' ⟨rfl, rfl⟩) | (go_at_call 76; (with_reducible refine (R2.out _).mono ?_); rintro e w' ⟨rfl, rfl⟩))
          all_goals (go_ret; exact ⟨by rw [HF.out]; first | rfl | (congr 2; push_cast; omega) | (simp; omega), rfl⟩)
      · have hk2 : m + 2 + k2 ≤ s.size := by have := runL_le (s.data.toList.drop (m + 2)); rw [g3, List.length_drop, ← Lib.size_eq] at this; omega
        have x1 : ((s[m].toNat : Int) == 101) = true := u8_eq _ 101 101 rfl g1
        have x2 : ((s[m + 1].toNat : Int) == 45) = true := u8_eq _ 45 45 rfl g2
        have R2 := Lib.hid (rrun_at s (m + 2) hs h' k2 g3 ((m : Int) + 1 + 1) (by omega))
        have HF : Hid (lenL s.data.toList = m + if k2 = 0 then 0 else min k2 3 + 2) := Lib.hid (by rw [HM.out, g4])
        clear g1 g2 g3 g4
        rcases (by omega : k2 = 0 ∨ (0 < k2 ∧ k2 < 3) ∨ 3 ≤ k2) with z | ⟨z, z'⟩ | z
        · subst z
          go_enter Tryd.func55, Tryd.ntmps55
          go_wp2_with (first | (go_at_call 76; (with_reducible refine (R0.out _).mono ?_); rintro e w' ⟨rfl, rfl⟩) | (go_at_call 76; (with_reducible refine (R1.out _).mono ?_); rintro e w' ⟨rfl, rfl⟩) | (go_at_call 76; (with_reducible refine (R2.out _).mono ?_); rintro e w' ⟨rfl, rfl⟩))
          all_goals (go_ret; exact ⟨by rw [HF.out]; first | rfl | (congr 2; push_cast; omega) | (simp; omega), rfl⟩)
        · have HF2 := Lib.hid (HF.out.trans (by rw [if_neg (by omega), Nat.min_eq_left (by omega)] : _ = m + (k2 + 2)))
          have e1 : min (k2 : Int) 3 = k2 := by omega
          clear HF
          have HF := HF2
          go_enter Tryd.func55, Tryd.ntmps55
          go_wp2_with (first | (go_at_call 76; (with_reducible refine (R0.out _).mono ?_); rintro e w' ⟨rfl, rfl⟩) | (go_at_call 76; (with_reducible refine (R1.out _).mono ?_); rintro e w' ⟨rfl, rfl⟩) | (go_at_call 76; (with_reducible refine (R2.out _).mono ?_); rintro e w' ⟨rfl, rfl⟩))
          all_goals (go_ret; exact ⟨by rw [HF.out]; first | rfl | (congr 2; push_cast; omega) | (simp; omega), rfl⟩)
        · have HF2 := Lib.hid (HF.out.trans (by rw [if_neg (by omega), Nat.min_eq_right (by omega)] : _ = m + (3 + 2)))
          have e1 : min (k2 : Int) 3 = 3 := by omega
          clear HF
          have HF := HF2
          go_enter Tryd.func55, Tryd.ntmps55
          go_wp2_with (first | (go_at_call 76; (with_reducible refine (R0.out _).mono ?_); rintro e w' ⟨rfl, rfl⟩) | (go_at_call 76; (with_reducible refine (R1.out _).mono ?_); rintro e w' ⟨rfl, rfl⟩) | (go_at_call 76; (with_reducible refine (R2.out _).mono ?_); rintro e w' ⟨rfl, rfl⟩))
          all_goals (go_ret; exact ⟨by rw [HF.out]; first | rfl | (congr 2; push_cast; omega) | (simp; omega), rfl⟩)
end Go.Proofs.YtcajdkncohcaeaaDoor
