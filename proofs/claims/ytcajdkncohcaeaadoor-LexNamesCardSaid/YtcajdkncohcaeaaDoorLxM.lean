import Derived.Test.YtcajdkncohcaeaaDoorLxL
namespace Go.Proofs.YtcajdkncohcaeaaDoor
set_option linter.unusedVariables false
set_option linter.unusedSimpArgs false
open Go.RowKit Go.Proofs.YtcajdkncohcaeaaDoorW.PrintWords
attribute [local go_sem high] eqTok eqFlt

set_option maxRecDepth 20000 in
set_option maxHeartbeats 8000000 in
/-- of a text that may be a word, as far as its length goes -/
theorem lexNames_near (s : ByteArray) (w : World) (hs : s.size ≤ 140737488351232) (hG : Glob w) (h1 : 1 ≤ s.size) (h2 : s.size ≤ 16) :
    Calls Tryd.prog 5 #[.string s] w (lwPost w) := by
  obtain ⟨wb, hwb⟩ : ∃ wb, wordB s = wb := ⟨_, rfl⟩
  have HWB := Lib.hid hwb
  have H1 : Hid ((true && okFrom 0 s.data.toList) = wb) := Lib.hid (by rw [← hwb, wordB, decide_eq_true h1, decide_eq_true h2]; rfl)
  have e2 : decide ((s.size : Int) ≤ 16) = true := by simp; omega
  clear hwb
  go_enter Tryd.func5, Tryd.ntmps5
  go_wp2_with fail
  go_loop [3, 4] (fun v i => ∃ (k : Nat) (b : Bool), i = .int .i64 k ∧ k ≤ s.size ∧ v = .bool b ∧ Hid ((b && okFrom k (s.data.toList.drop k)) = wb)) (fun _ i => s.size - (intOf i).toNat)
  case atStart => exact ⟨0, _, rfl, Nat.zero_le _, rfl, H1⟩
  case round =>
    obtain ⟨k, b, rfl, hk, rfl, HA⟩ := hrel
    clear H1
    by_cases hlt : k < s.size
    · have hd := drop_cons s k hlt
      have hb : s[k].toNat ≤ 255 := Nat.le_of_lt_succ s[k].toNat_lt
      cases b with
      | false =>
        have HS : Hid ((false && okFrom (k + 1) (s.data.toList.drop (k + 1))) = wb) := Lib.hid (by rw [← HA.out]; rfl)
        clear HA hd
        go_wp2_with fail
        go_round
        case rel => exact ⟨k + 1, false, by go_num, by omega, rfl, HS⟩
        case measure => simp [intOf]; omega
      | true =>
        obtain ⟨q, hq⟩ : ∃ q, okc k s[k].toNat = q := ⟨_, rfl⟩
        have HS : Hid ((q && okFrom (k + 1) (s.data.toList.drop (k + 1))) = wb) := Lib.hid (by rw [← HA.out, hd, okFrom, hq]; rfl)
        have HQ := Lib.hid hq
        clear HA hd hq
        obtain ⟨c, hc⟩ : ∃ c : Nat, s[k].toNat = c := ⟨_, rfl⟩
        rw [hc] at hb HQ
        rcases (by omega : c < 48 ∨ (48 ≤ c ∧ c ≤ 57) ∨ (57 < c ∧ c < 65) ∨ (65 ≤ c ∧ c ≤ 90) ∨ (90 < c ∧ c < 95) ∨ (c = 95 ∧ 90 < c ∧ c < 97) ∨ (95 < c ∧ c < 97) ∨ (97 ≤ c ∧ c ≤ 122) ∨ 122 < c) with g | ⟨g, g'⟩ | ⟨g, g'⟩ | ⟨g, g'⟩ | ⟨g, g'⟩ | ⟨g0, g, g'⟩ | ⟨g, g'⟩ | ⟨g, g'⟩ | g
        all_goals
          rcases Nat.eq_zero_or_pos k with hk0 | hk0
        all_goals
          first
          | (have HV : Hid (q = true) := Lib.hid (by rw [← HQ.out, okc_val]; exact decide_eq_true (by omega)))
          | (have HV : Hid (q = false) := Lib.hid (by rw [← HQ.out, okc_val]; exact decide_eq_false (by omega)))
          clear HQ
          have HS2 : Hid (((q && okFrom (k + 1) (s.data.toList.drop (k + 1))) = wb)) := HS
          rw [HV.out] at HS2
          first
          | (have e95 : ((c : Int) == 95) = false := by simp; omega
             have hk1 : k ≤ 0 ∨ 0 < k := by omega
             skip)
          | (have e95 : ((c : Int) == 95) = true := by simp; omega
             clear g0
             have hk1 : k ≤ 0 ∨ 0 < k := by omega
             skip)
          clear hk1
          first
          | (have hk2 : k ≤ 0 := by omega
             clear hk0)
          | skip
          first | (have d1 : decide ((c : Int) ≤ 122) = true := by simp; omega) | (have d1 : decide ((c : Int) ≤ 122) = false := by simp; omega)
          first | (have d2 : decide ((c : Int) ≤ 90) = true := by simp; omega) | (have d2 : decide ((c : Int) ≤ 90) = false := by simp; omega)
          first | (have d3 : decide ((c : Int) ≤ 57) = true := by simp; omega) | (have d3 : decide ((c : Int) ≤ 57) = false := by simp; omega)
          go_wp2_with fail
          go_round
          case rel => exact ⟨k + 1, _, by go_num, by omega, rfl, HS2⟩
          case measure => simp [intOf]; omega
    · have hkk : k = s.size := by omega
      have HB : Hid (b = wb) := Lib.hid (by rw [← HA.out, List.drop_of_length_le (by rw [← Lib.size_eq]; omega), okFrom, Bool.and_true])
      obtain rfl := HB.out
      clear HA HB hkk
      cases b with
      | false =>
        skip
        obtain ⟨⟨L, E, A⟩, hT⟩ : ∃ t, tokensOf s = t := ⟨_, rfl⟩
        have hown : Lib.containsS wordsZ s = false := by
          cases ho : Lib.containsS wordsZ s with
          | false => rfl
          | true => have := own_word s ho; rw [HWB.out] at this; cases this
        obtain ⟨n1, n2, n3, n4, n5, n6⟩ := own_no s hown
        have N := Lib.hid (isName_at s false (by rw [isName_wordB, HWB.out]; rfl))
        clear hown
        by_cases hE : E = 0
        · subst hE
          obtain rfl := ok_pos s L A hT
          by_cases hn : L.length = 1
          · obtain ⟨⟨ka, tx, po⟩, rfl⟩ : ∃ t, L = [t] := by
              match L, hn with
              | [t], _ => exact ⟨t, rfl⟩
            have he : (ka == 1 && (tx.toList == s.toList && po == 0)) = false := by
              rw [Bool.eq_false_iff]; intro h
              simp only [Bool.and_eq_true, beq_iff_eq] at h
              obtain ⟨rfl, htx, rfl⟩ := h
              have : tx = s := by apply ByteArray.ext; rw [← Array.toList_inj, ← Lib.toList_data, ← Lib.toList_data, htx]
              subst this
              have := one_word tx hT
              rw [HWB.out] at this; cases this
            have T := Lib.hid (tokens_at s _ 1 _ _ hT rfl)
            clear hn hT
            go_wp2_with fail
            refine (T.out w hs hG).mono ?_
            rintro e w1 ⟨Ad, c1, rfl, hC, hb1⟩
            have B1 := Lib.hid (hb1.trans ((alloc_keep w1 (.cells #[.int .i64 0, .int .i64 0] 26)).mono hb1.size))
            have C1 := Lib.hid (Kd.C_alloc hC (.cells #[.int .i64 0, .int .i64 0] 26))
            have G1 := hG.below B1.out
            clear hC hb1
            obtain ⟨ad, e0, x0, x1, x2⟩ := atTok C1.out 0 (by decide) (by decide)
            subst e0
            replace x0 : (w1.alloc (.cells #[.int .i64 0, .int .i64 0] 26)).cell? ad = some (.int .i64 ka) := x0
            replace x1 : (w1.alloc (.cells #[.int .i64 0, .int .i64 0] 26)).cell? ⟨ad.block, ad.off + 1, none⟩ = some (.string tx) := x1
            replace x2 : (w1.alloc (.cells #[.int .i64 0, .int .i64 0] 26)).cell? ⟨ad.block, ad.off + 2, none⟩ = some (.int .i64 po) := x2
            go_wp2_with (first | (go_at_call 19; (with_reducible refine (N.out _ hs G1).mono ?_); rintro e w' ⟨rfl, rfl⟩))
            refine (lexWakes_any _ G1).mono ?_
            rintro e w2 ⟨rfl, hb2⟩
            have B2 := Lib.hid (bl_then B1.out hb2)
            clear hb2
            go_wp2_with fail
            go_ret
            exact ⟨rfl, B2.out⟩
          · obtain ⟨m, hm⟩ : ∃ m, L.length = m := ⟨_, rfl⟩
            have T := Lib.hid (tokens_at s L m _ _ hT hm)
            have em : ((m : Int) == 1) = false := by simp; omega
            clear hn hT hm
            go_wp2_with fail
            refine (T.out w hs hG).mono ?_
            rintro e w1 ⟨Ad, c1, rfl, hC, hb1⟩
            have B1 := Lib.hid (hb1.trans ((alloc_keep w1 (.cells #[.int .i64 0, .int .i64 0] 26)).mono hb1.size))
            have C1 := Lib.hid (Kd.C_alloc hC (.cells #[.int .i64 0, .int .i64 0] 26))
            have G1 := hG.below B1.out
            clear hC hb1
            go_wp2_with (first | (go_at_call 19; (with_reducible refine (N.out _ hs G1).mono ?_); rintro e w' ⟨rfl, rfl⟩))
            refine (lexWakes_any _ G1).mono ?_
            rintro e w2 ⟨rfl, hb2⟩
            have B2 := Lib.hid (bl_then B1.out hb2)
            clear hb2
            go_wp2_with fail
            go_ret
            exact ⟨rfl, B2.out⟩
        · have T := Lib.hid (tokens_at s L L.length _ _ hT rfl)
          have eE : (E == 0) = false := by simpa using hE
          clear hE hT
          go_wp2_with fail
          refine (T.out w hs hG).mono ?_
          rintro e w1 ⟨Ad, c1, rfl, hC, hb1⟩
          have B1 := Lib.hid (hb1.trans ((alloc_keep w1 (.cells #[.int .i64 E, .int .i64 A] 26)).mono hb1.size))
          have C1 := Lib.hid (Kd.C_alloc hC (.cells #[.int .i64 E, .int .i64 A] 26))
          have G1 := hG.below B1.out
          clear hC hb1
          go_wp2_with (first | (go_at_call 19; (with_reducible refine (N.out _ hs G1).mono ?_); rintro e w' ⟨rfl, rfl⟩))
          refine (lexWakes_any _ G1).mono ?_
          rintro e w2 ⟨rfl, hb2⟩
          have B2 := Lib.hid (bl_then B1.out hb2)
          clear hb2
          go_wp2_with fail
          go_ret
          exact ⟨rfl, B2.out⟩
      | true =>
        skip
        have HT := word_one s HWB.out
        have T := Lib.hid (tokens_at s [⟨1, s, 0⟩] 1 _ _ HT rfl)
        cases hown : Lib.containsS wordsZ s with
        | false =>
          obtain ⟨n1, n2, n3, n4, n5, n6⟩ := own_no s hown
          have m1 := beq_eq_false_iff_ne.2 n1
          have m2 := beq_eq_false_iff_ne.2 n2
          have m3 := beq_eq_false_iff_ne.2 n3
          have m4 := beq_eq_false_iff_ne.2 n4
          have m5 := beq_eq_false_iff_ne.2 n5
          have m6 := beq_eq_false_iff_ne.2 n6
          have N := Lib.hid (isName_at s true (by rw [isName_wordB, HWB.out, hown]; rfl))
          clear hown HT
          go_wp2_with fail
          refine (T.out w hs hG).mono ?_
          rintro e w1 ⟨Ad, c1, rfl, hC, hb1⟩
          have B1 := Lib.hid (hb1.trans ((alloc_keep w1 (.cells #[.int .i64 0, .int .i64 0] 26)).mono hb1.size))
          have C1 := Lib.hid (Kd.C_alloc hC (.cells #[.int .i64 0, .int .i64 0] 26))
          have G1 := hG.below B1.out
          clear hC hb1
          obtain ⟨ad, e0, x0, x1, x2⟩ := atTok C1.out 0 (by decide) (by decide)
          subst e0
          replace x0 : (w1.alloc (.cells #[.int .i64 0, .int .i64 0] 26)).cell? ad = some (.int .i64 1) := x0
          replace x1 : (w1.alloc (.cells #[.int .i64 0, .int .i64 0] 26)).cell? ⟨ad.block, ad.off + 1, none⟩ = some (.string s) := x1
          replace x2 : (w1.alloc (.cells #[.int .i64 0, .int .i64 0] 26)).cell? ⟨ad.block, ad.off + 2, none⟩ = some (.int .i64 0) := x2
          go_wp2_with (first | (go_at_call 19; (with_reducible refine (N.out _ hs G1).mono ?_); rintro e w' ⟨rfl, rfl⟩))
          refine (lexWakes_any _ G1).mono ?_
          rintro e w2 ⟨rfl, hb2⟩
          have B2 := Lib.hid (bl_then B1.out hb2)
          clear hb2
          go_wp2_with fail
          go_ret
          exact ⟨rfl, B2.out⟩
        | true =>
          have N := Lib.hid (isName_at s false (by rw [isName_wordB, HWB.out, hown]; rfl))
          have hm := (Lib.containsS_iff wordsZ s).1 hown
          simp only [wordsZ, List.mem_cons, List.not_mem_nil, or_false] at hm
          have hl := fun l (h : s = bs l) => (by rw [h, bs_toList] : s.toList = l)
          clear hown HT
          rcases hm with hm | hm | hm | hm | hm | hm
          all_goals
            have hl1 := hl _ hm
            clear hl hm
            go_wp2_with fail
            refine (T.out w hs hG).mono ?_
            rintro e w1 ⟨Ad, c1, rfl, hC, hb1⟩
            have B1 := Lib.hid (hb1.trans ((alloc_keep w1 (.cells #[.int .i64 0, .int .i64 0] 26)).mono hb1.size))
            have C1 := Lib.hid (Kd.C_alloc hC (.cells #[.int .i64 0, .int .i64 0] 26))
            have G1 := hG.below B1.out
            clear hC hb1
            obtain ⟨ad, e0, x0, x1, x2⟩ := atTok C1.out 0 (by decide) (by decide)
            subst e0
            replace x0 : (w1.alloc (.cells #[.int .i64 0, .int .i64 0] 26)).cell? ad = some (.int .i64 1) := x0
            replace x1 : (w1.alloc (.cells #[.int .i64 0, .int .i64 0] 26)).cell? ⟨ad.block, ad.off + 1, none⟩ = some (.string s) := x1
            replace x2 : (w1.alloc (.cells #[.int .i64 0, .int .i64 0] 26)).cell? ⟨ad.block, ad.off + 2, none⟩ = some (.int .i64 0) := x2
            go_wp2_with (first | (go_at_call 19; (with_reducible refine (N.out _ hs G1).mono ?_); rintro e w' ⟨rfl, rfl⟩))
            refine (lexWakes_any _ G1).mono ?_
            rintro e w2 ⟨rfl, hb2⟩
            have B2 := Lib.hid (bl_then B1.out hb2)
            clear hb2
            go_wp2_with fail
            go_ret
            exact ⟨rfl, B2.out⟩

theorem lexNames_any (s : ByteArray) (w : World) (hs : s.size ≤ 140737488351232) (hG : Glob w) :
    Calls Tryd.prog 5 #[.string s] w (lwPost w) := by
  by_cases hbig : 200 < s.size
  · go_enter Tryd.func5, Tryd.ntmps5
    go_wp2_with fail
    refine (lexWakes_any w hG).mono ?_
    rintro e w1 ⟨rfl, hb⟩
    go_wp2_with fail
    go_ret
    exact ⟨rfl, hb⟩
  · by_cases hin : 1 ≤ s.size ∧ s.size ≤ 16
    · exact lexNames_near s w hs hG hin.1 hin.2
    · exact lexNames_far s w hs hG hbig hin
end Go.Proofs.YtcajdkncohcaeaaDoor
