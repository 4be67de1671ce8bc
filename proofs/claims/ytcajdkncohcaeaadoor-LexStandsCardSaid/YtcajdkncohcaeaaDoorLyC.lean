import Derived.Test.YtcajdkncohcaeaaDoorLxT
import Derived.Test.YtcajdkncohcaeaaDoorLyP
namespace Go.Proofs.YtcajdkncohcaeaaDoor
set_option linter.unusedVariables false
set_option linter.unusedSimpArgs false
open Go.RowKit Go.Proofs.YtcajdkncohcaeaaDoorW.PrintWords
attribute [local go_sem high] eqTok eqFlt

theorem tokens_atR (s : ByteArray) (L : List Tok) (n : Nat) (E A : Int) (h : tokensOf s = (L, E, A)) (hn : L.length = n) (w : World) (hs : s.size ≤ 140737488351232) (hG : Glob w) :
    Calls Tryd.prog 16 #[.string s] w fun e w' => ∃ Ad c, e = .returned (.tuple #[.slice Ad n c, .agg #[.int .i64 E, .int .i64 A]]) ∧ Kd.R kTok 36 w' w.heap.size (fun _ => True) (.slice Ad n c) L ∧ Below w.heap.size w w' := by
  have := tokens_any s w hs hG
  rw [h] at this
  refine this.mono ?_
  rintro e w' ⟨v, he, hR, hB⟩
  obtain ⟨Ad, c, rfl, _, _⟩ := Kd.R_reads hR
  subst hn
  exact ⟨Ad, c, he, hR, hB⟩
/-- a step within blanks and notes -/
theorem skip_step (s : ByteArray) (j p : Nat) (b : Bool) (h : j < s.size) (hp : j + skipL b (s.data.toList.drop j) = p) (hjp : j < p) :
    (s[j].toNat = 10 ∧ j + 1 + skipL false (s.data.toList.drop (j + 1)) = p) ∨ (s[j].toNat = 35 ∧ j + 1 + skipL true (s.data.toList.drop (j + 1)) = p) ∨
    (s[j].toNat ≠ 10 ∧ s[j].toNat ≠ 35 ∧ (b = true ∨ s[j].toNat = 32 ∨ s[j].toNat = 9) ∧ j + 1 + skipL b (s.data.toList.drop (j + 1)) = p) := by
  rw [drop_cons s j h] at hp
  obtain ⟨c, hc⟩ : ∃ c, s[j].toNat = c := ⟨_, rfl⟩
  cases b with
  | false =>
    rw [skipL, hc] at hp
    rw [hc]
    by_cases h1 : isBlank c = true
    · rw [if_pos h1] at hp
      unfold isBlank at h1
      simp only [Bool.or_eq_true, beq_iff_eq] at h1
      rcases h1 with (h1 | h1) | h1
      · right; right; exact ⟨by omega, by omega, .inr (.inl h1), by omega⟩
      · right; right; exact ⟨by omega, by omega, .inr (.inr h1), by omega⟩
      · left; exact ⟨h1, by omega⟩
    · rw [if_neg h1] at hp
      by_cases h2 : (c == 35) = true
      · rw [if_pos h2] at hp
        right; left; exact ⟨by simpa using h2, by omega⟩
      · rw [if_neg h2] at hp; omega
  | true =>
    rw [skipL, hc] at hp
    rw [hc]
    by_cases h1 : (c == 10) = true
    · rw [if_pos h1] at hp
      left; exact ⟨by simpa using h1, by omega⟩
    · rw [if_neg h1] at hp
      simp only [beq_iff_eq] at h1
      by_cases h2 : c = 35
      · right; left; exact ⟨h2, by omega⟩
      · right; right; exact ⟨h1, h2, .inl rfl, by omega⟩

theorem cut_pos (s : ByteArray) (L : List Tok) (h : stands 0 L s) (k : Nat) (hk : k < L.length) : ∃ c : Nat, (L.getD k zTok).pos = c ∧ c < s.size := by
  have hL : L = L.take k ++ L.getD k zTok :: L.drop (k + 1) := by
    rw [List.getD_eq_getElem?_getD, List.getElem?_eq_getElem hk, Option.getD_some, ← List.drop_eq_getElem_cons hk, List.take_append_drop]
  rw [hL] at h
  obtain ⟨c, h1, _, h3⟩ := stands_pos s _ _ _ 0 h
  exact ⟨c, h1, h3⟩
def gapB (s : ByteArray) (cut : Nat) : ByteArray := s.extract 0 cut ++ ⟨#[32, 10, 35, 32, 120, 10]⟩ ++ s.extract cut s.size
theorem gapB_data (s : ByteArray) (cut : Nat) (h : cut ≤ s.size) : (gapB s cut).data.toList = s.data.toList.take cut ++ (gapL ++ s.data.toList.drop cut) := by
  rw [gapB, ByteArray.data_append, ByteArray.data_append, Array.toList_append, Array.toList_append, Lib.extract_data, Lib.extract_to_end, List.drop_zero, Nat.sub_zero, List.append_assoc]; rfl
theorem gapB_size (s : ByteArray) (cut : Nat) (h : cut ≤ s.size) : (gapB s cut).size = s.size + 6 := by
  rw [Lib.size_eq, gapB_data s cut h, List.length_append, List.length_append, List.length_take, List.length_drop, ← Lib.size_eq]
  simp only [gapL, List.length_cons, List.length_nil]; omega

set_option maxRecDepth 20000 in
set_option maxHeartbeats 8000000 in
theorem lexStands_near (s : ByteArray) (m : Nat) (hm : m < 256) (w : World) (hs : s.size ≤ 2000) (hG : Glob w) :
    Calls Tryd.prog 4 #[.string s, .int .u8 m] w (lwPost w) := by
  cases hall : lexAll s with
  | error e =>
    have ha : tokensOf s = ([], 11, (e : Int)) := by rw [tokensOf, if_neg (by omega), hall]; rfl
    obtain ⟨_, hA0, hA1⟩ := tokens_fault s [] e ha
    have TA := Lib.hid (tokens_at s [] 0 11 e ha rfl)
    clear ha hall
    go_enter Tryd.func4, Tryd.ntmps4
    go_wp2_with fail
    refine (TA.out w (by omega) hG).mono ?_
    rintro e1 w1 ⟨A1, c1, rfl, hC1, hb1⟩
    have B1 := Lib.hid (hb1.trans ((alloc_keep w1 (.cells #[.int .i64 11, .int .i64 e] 26)).mono hb1.size))
    have G1 := hG.below B1.out
    have p1 : (w1.alloc (.cells #[.int .i64 11, .int .i64 e] 26)).cell? ⟨w1.heap.size, 0, none⟩ = some (.int .i64 11) := by simp
    have q1 : (w1.alloc (.cells #[.int .i64 11, .int .i64 e] 26)).cell? ⟨w1.heap.size, 1, none⟩ = some (.int .i64 e) := by simp
    have hei : (e : Int) < (s.size : Int) := hA1
    have hei2 : decide ((e : Int) < (s.size : Int)) = true := by simpa using hA1
    have hei3 : decide ((0 : Int) ≤ (e : Int)) = true := by simp
    clear hC1 hb1 TA
    go_wp2_with fail
    refine (lexWakes_any _ G1).mono ?_
    rintro e2 w4 ⟨rfl, hb4⟩
    have B4 := Lib.hid (bl_then B1.out hb4)
    clear hb4
    go_wp2_with fail
    go_ret
    exact ⟨rfl, B4.out⟩
  | ok L =>
    have ha : tokensOf s = (L, 0, 0) := by rw [tokensOf, if_neg (by omega), hall]; rfl
    have HALL := Lib.hid hall
    obtain ⟨n, hn⟩ : ∃ n, L.length = n := ⟨_, rfl⟩
    have hnS : n ≤ s.size := by have : L.length ≤ s.size := (by have := tokens_len s; rw [ha] at this; exact this); omega
    have TA := Lib.hid (tokens_at s L n 0 0 ha hn)
    have HN := Lib.hid hn
    have HST := Lib.hid (stands_all s L hall)
    have HO : Hid (∀ x ∈ L, tokOK x ∧ x.text.size ≤ s.size ∧ 0 ≤ x.pos ∧ x.pos < s.size) := Lib.hid (by have := tokens_OK s; rw [ha] at this; exact this)
    clear ha hn hall
    go_enter Tryd.func4, Tryd.ntmps4
    go_wp2_with fail
    refine (TA.out w (by omega) hG).mono ?_
    rintro e w1 ⟨A1, c1, rfl, hC1, hb1⟩
    have B1 := Lib.hid (hb1.trans ((alloc_keep w1 (.cells #[.int .i64 0, .int .i64 0] 26)).mono hb1.size))
    have G1 := hG.below B1.out
    have C1 := Lib.hid (Kd.C_alloc hC1 (.cells #[.int .i64 0, .int .i64 0] 26))
    have p1 : (w1.alloc (.cells #[.int .i64 0, .int .i64 0] 26)).cell? ⟨w1.heap.size, 0, none⟩ = some (.int .i64 0) := by simp
    have P1 := Lib.hid p1
    clear hC1 hb1 TA
    go_wp2_with fail
    obtain ⟨W, hW⟩ : ∃ W, w1.alloc (.cells #[.int .i64 0, .int .i64 0] 26) = W := ⟨_, rfl⟩
    rw [hW] at G1 C1 P1 B1 ⊢
    clear hW p1
    go_loop [7, 8] (fun a i => ∃ k q : Nat, i = .int .i64 k ∧ a = .int .i64 q ∧ k ≤ n ∧ q ≤ s.size ∧ Hid (stands q (L.drop k) s)) (fun _ i => n + 1 - (intOf i).toNat)
    case atStart => exact ⟨0, 0, rfl, rfl, Nat.zero_le _, Nat.zero_le _, Lib.hid (by rw [List.drop_zero]; exact HST.out)⟩
    case round =>
      obtain ⟨k, q, rfl, rfl, hk, hq, HS⟩ := hrel
      by_cases hlt : k < n
      · obtain ⟨ad, e0, x0, x1, x2⟩ := atTok C1.out k (by omega) (by omega)
        subst e0
        simp only [Int.toNat_natCast] at x0 x1 x2
        obtain ⟨⟨kd, tx, po⟩, hgt⟩ : ∃ t, L.getD k zTok = t := ⟨_, rfl⟩
        rw [hgt] at x0 x1 x2
        simp only [] at x0 x1 x2
        have hd : L.drop k = ⟨kd, tx, po⟩ :: L.drop (k + 1) := by
          have := HN.out
          rw [← hgt, List.getD_eq_getElem?_getD, List.getElem?_eq_getElem (by omega), Option.getD_some]; exact List.drop_eq_getElem_cons (by omega)
        have hst := HS.out
        rw [hd] at hst
        obtain ⟨p, z, hqp, hpo, hz, hpz, hfull, hnext⟩ := hst
        replace hpo : po = (p : Int) := hpo
        subst hpo
        have hqp' : q ≤ p := by omega
        have HQ := Lib.hid hqp
        have HF := Lib.hid hfull
        have HX := Lib.hid hnext
        clear hqp hfull hnext hd hgt HS HST HALL
        go_wp2_with fail
        go_loop [7, 10] (fun a b => ∃ (j : Nat) (v : Bool), a = .int .i64 j ∧ b = .bool v ∧ j ≤ p ∧ Hid (j + skipL v (s.data.toList.drop j) = p)) (fun a _ => p - (intOf a).toNat)
        case atStart => exact ⟨q, false, rfl, rfl, hqp', HQ⟩
        case round =>
          obtain ⟨j, v, rfl, rfl, hjp, HJ⟩ := hrel
          by_cases hon : j < p
          · have hjs : j < s.size := by omega
            have hc : s[j].toNat ≤ 255 := Nat.le_of_lt_succ s[j].toNat_lt
            obtain ⟨c, hcc⟩ : ∃ c : Nat, s[j].toNat = c := ⟨_, rfl⟩
            have hcases := skip_step s j p v hjs HJ.out hon
            rw [hcc] at hc hcases
            rcases hcases with ⟨h10, hn⟩ | ⟨h35, hn⟩ | ⟨h10, h35, hv, hn⟩
            · have HN2 := Lib.hid hn
              clear hn HJ x0 x1 x2 HQ HF HX
              subst h10
              go_wp2_with fail
              go_round
              case rel => exact ⟨j + 1, false, by go_num, rfl, by omega, HN2⟩
              case measure => simp [intOf]; omega
            · have HN2 := Lib.hid hn
              clear hn HJ x0 x1 x2 HQ HF HX
              subst h35
              go_wp2_with fail
              go_round
              case rel => exact ⟨j + 1, true, by go_num, rfl, by omega, HN2⟩
              case measure => simp [intOf]; omega
            · have HN2 := Lib.hid hn
              have e10 : ((c : Int) == 10) = false := by simp; omega
              have e35 : ((c : Int) == 35) = false := by simp; omega
              clear hn HJ x0 x1 x2 HQ HF HX
              cases v with
              | true =>
                clear hv h10 h35
                go_wp2_with fail
                go_round
                case rel => exact ⟨j + 1, true, by go_num, rfl, by omega, HN2⟩
                case measure => simp [intOf]; omega
              | false =>
                rcases hv with hv | hv | hv
                · cases hv
                all_goals
                  subst hv
                  clear h10 h35 e10 e35
                  go_wp2_with fail
                  go_round
                  case rel => exact ⟨j + 1, false, by go_num, rfl, by omega, HN2⟩
                  case measure => simp [intOf]; omega
          · obtain rfl : j = p := by omega
            have hekn : ((k : Int) == (n : Int)) = false := by simp; omega
            have hekn2 : (k == n) = false := by simp; omega
            have hzs : (s.extract j (j + z)).size = z := by rw [ByteArray.size_extract]; omega
            obtain ⟨jz, hjzn⟩ : ∃ jz, j + z = jz := ⟨_, rfl⟩
            have hjz : (j : Int) + (z : Int) = (jz : Int) := by omega
            have hjz1 : j ≤ jz := by omega
            have hfull := HF.out
            rw [hjzn] at hzs hfull hpz HX
            obtain ⟨ft, hfe⟩ : ∃ ft, s.extract j jz = ft := ⟨_, rfl⟩
            rw [hfe] at hzs hfull
            clear HJ hjp hon HQ HF
            clear hjzn
            have ez : ((z : Int) == 0) = false := by simp; omega
            have ez2 : (z == 0) = false := by simp; omega
            by_cases h4 : kd = 4
            · subst h4
              have hft : (⟨#[91]⟩ : ByteArray) ++ tx ++ ⟨#[93]⟩ = ft := by simpa [fullB] using hfull
              have htz : tx.size ≤ 2000 := by
                have := congrArg ByteArray.size hft
                rw [ByteArray.size_append, ByteArray.size_append, hzs] at this
                omega
              clear hfull
              go_wp2_with fail
              go_round
              case rel => exact ⟨k + 1, jz, by go_num, rfl, by omega, hpz, HX⟩
              case measure => simp [intOf]; omega
            · have hft : tx = ft := by simpa [fullB, h4] using hfull
              have e4 : (kd == 4) = false := by simpa using h4
              subst hft
              clear hfull h4
              go_wp2_with fail
              go_round
              case rel => exact ⟨k + 1, jz, by go_num, rfl, by omega, hpz, HX⟩
              case measure => simp [intOf]; omega
      · obtain rfl : k = n := by omega
        have hst := HS.out
        rw [List.drop_of_length_le (by rw [HN.out]; exact Nat.le_refl _)] at hst
        have HQ : Hid (q + skipL false (s.data.toList.drop q) = s.size) := Lib.hid hst
        clear hst HS hlt hk
        go_wp2_with fail
        go_loop [7, 10] (fun a b => ∃ (j : Nat) (v : Bool), a = .int .i64 j ∧ b = .bool v ∧ j ≤ s.size ∧ Hid (j + skipL v (s.data.toList.drop j) = s.size)) (fun a _ => s.size - (intOf a).toNat)
        case atStart => exact ⟨q, false, rfl, rfl, hq, HQ⟩
        case round =>
          obtain ⟨j, v, rfl, rfl, hjp, HJ⟩ := hrel
          by_cases hon : j < s.size
          · have hjs : j < s.size := hon
            have hc : s[j].toNat ≤ 255 := Nat.le_of_lt_succ s[j].toNat_lt
            obtain ⟨c, hcc⟩ : ∃ c : Nat, s[j].toNat = c := ⟨_, rfl⟩
            have hcases := skip_step s j s.size v hjs HJ.out hon
            rw [hcc] at hc hcases
            rcases hcases with ⟨h10, hn⟩ | ⟨h35, hn⟩ | ⟨h10, h35, hv, hn⟩
            · have HN2 := Lib.hid hn
              clear hn HJ HQ HALL HST
              subst h10
              go_wp2_with fail
              go_round
              case rel => exact ⟨j + 1, false, by go_num, rfl, by omega, HN2⟩
              case measure => simp [intOf]; omega
            · have HN2 := Lib.hid hn
              clear hn HJ HQ HALL HST
              subst h35
              go_wp2_with fail
              go_round
              case rel => exact ⟨j + 1, true, by go_num, rfl, by omega, HN2⟩
              case measure => simp [intOf]; omega
            · have HN2 := Lib.hid hn
              have e10 : ((c : Int) == 10) = false := by simp; omega
              have e35 : ((c : Int) == 35) = false := by simp; omega
              clear hn HJ HQ HALL HST
              cases v with
              | true =>
                clear hv h10 h35
                go_wp2_with fail
                go_round
                case rel => exact ⟨j + 1, true, by go_num, rfl, by omega, HN2⟩
                case measure => simp [intOf]; omega
              | false =>
                rcases hv with hv | hv | hv
                · cases hv
                all_goals
                  subst hv
                  clear h10 h35 e10 e35
                  go_wp2_with fail
                  go_round
                  case rel => exact ⟨j + 1, false, by go_num, rfl, by omega, HN2⟩
                  case measure => simp [intOf]; omega
          · clear HJ hjp HQ
            rcases Nat.eq_zero_or_pos k with hk0 | hk0
            · subst hk0
              go_wp2_with fail
              refine (lexWakes_any _ G1).mono ?_
              rintro e2 w4 ⟨rfl, hb4⟩
              have B4 := Lib.hid (B1.out.trans (hb4.mono B1.out.size))
              clear hb4
              go_wp2_with fail
              go_ret
              exact ⟨rfl, B4.out⟩
            · have ek0 : ((k : Int) == 0) = false := by simp; omega
              obtain ⟨i, hi⟩ : ∃ i, m % k = i := ⟨_, rfl⟩
              have hik : i < k := by rw [← hi]; exact Nat.mod_lt _ hk0
              have him : (m : Int).tmod (k : Int) = (i : Int) := by rw [← hi, Int.tmod_eq_emod_of_nonneg (by omega)]; rfl
              have him2 : (m : Int) % (k : Int) = (i : Int) := by rw [← hi]; rfl
              clear hi
              obtain ⟨cut, hcut, hcs⟩ := cut_pos s L HST.out i (by rw [HN.out]; exact hik)
              obtain ⟨ad, e0, x0, x1, x2⟩ := atTok C1.out i (by omega) (by omega)
              subst e0
              simp only [Int.toNat_natCast] at x0 x1 x2
              have hM := lexAll_cut s (gapB s cut) L HALL.out i (by rw [HN.out]; exact hik) cut hcut (gapB_data s cut (by omega)) (gapB_size s cut (by omega))
              obtain ⟨M, hMe⟩ : ∃ M, L.take i ++ (L.drop i).map (shiftTok 6) = M := ⟨_, rfl⟩
              have hMn : M.length = k := by rw [← hMe, List.length_append, List.length_map, List.length_take, List.length_drop, HN.out]; omega
              have hug := gapB_size s cut (by omega)
              have ha2 : tokensOf (gapB s cut) = (M, 0, 0) := by rw [tokensOf, if_neg (by omega), hM, hMe]; rfl
              have TU := Lib.hid (tokens_atR (gapB s cut) M k 0 0 ha2 hMn)
              have HM := Lib.hid hMe
              rw [hcut] at x2
              have hcs1 : cut ≤ s.size := by omega
              have hcs2 : (cut : Int) ≤ (s.size : Int) := by omega
              obtain ⟨s1, hs1⟩ : ∃ s1, s.extract 0 cut = s1 := ⟨_, rfl⟩
              obtain ⟨s2, hs2⟩ : ∃ s2, s.extract cut s.size = s2 := ⟨_, rfl⟩
              have z1 : s1.size = cut := by rw [← hs1, ByteArray.size_extract]; omega
              obtain ⟨d, z2⟩ : ∃ d, s2.size = d := ⟨_, rfl⟩
              have hd : d ≤ 2000 := by rw [← z2, ← hs2, ByteArray.size_extract]; omega
              obtain ⟨t1, ht1⟩ : ∃ t1, s1 ++ (⟨#[32, 10, 35, 32, 120, 10]⟩ : ByteArray) = t1 := ⟨_, rfl⟩
              have z3 : t1.size = cut + 6 := by rw [← ht1, ByteArray.size_append, z1]; rfl
              have hgu : gapB s cut = t1 ++ s2 := by rw [← ht1, ← hs1, ← hs2]; rfl
              obtain ⟨u, hu⟩ : ∃ u, t1 ++ s2 = u := ⟨_, rfl⟩
              rw [hgu, hu] at TU hug
              have n1 : ¬ 9223372036854775807 < cut + 6 := by omega
              have n2 : ¬ 9223372036854775807 < cut + 6 + d := by omega
              have n3 : ¬ (9223372036854775807 : Int) < (cut : Int) + 6 := by omega
              have n4 : ¬ (9223372036854775807 : Int) < (cut : Int) + 6 + (d : Int) := by omega
              have n5 : ((⟨#[32, 10, 35, 32, 120, 10]⟩ : ByteArray).size) = 6 := rfl
              clear hM hMe ha2 HALL HST x0 x1 hMn hgu
              have HG : ∀ w' : World, Below W.heap.size W w' → Glob w' := fun w' h => G1.below h
              go_wp2_with fail
              go_region_held3 (fun w' => Below W.heap.size W w') (first | assumption | exact (Below.refl _ _).drew | (refine bl_alloc ?_ _; assumption) | (refine bl_set ?_ ?_ _ <;> first | assumption | exact Nat.le_refl _ | omega) | (refine bl_then ?_ (by assumption); assumption) | (with_reducible exact bl_drew (bl_alloc (Below.refl _ _) _)) | (with_reducible exact bl_set (bl_set (by assumption) (Nat.le_refl _) _) (Nat.le_refl _) _)) (first | (go_at_call 16; with_reducible refine (TU.out (W.alloc (.cells #[.int .i64 0, .int .i64 0] 26)).drew ?_ ?_).mono ?_; (omega); (exact HG _ (by assumption)); rintro e w2 ⟨A2, c2, rfl, hR2, hb2⟩; have x5 : w2.cell? ⟨W.heap.size, 0, none⟩ = some (.int .i64 0) := (hb2.cell (p := ⟨W.heap.size, 0, none⟩) (by simp)).trans (by simp); have x6 : w2.cell? ⟨W.heap.size, 1, none⟩ = some (.int .i64 0) := (hb2.cell (p := ⟨W.heap.size, 1, none⟩) (by simp)).trans (by simp); have x7 : ∀ j, w2.frozen? ⟨W.heap.size, j, none⟩ = false := (fun j => (hb2.frozen (p := ⟨W.heap.size, j, none⟩) (by simp)).trans (by simp))) | (go_at_call 16; refine (TU.out _ ?_ ?_).mono ?_; (omega); (exact HG _ (by assumption)); rintro e w2 ⟨A2, c2, rfl, hR2, hb2⟩))
              · as_aux_lemma =>
                  obtain ⟨Ad9, c9, hv9, _, hC2⟩ := Kd.R_reads hR2
                  injection hv9 with h1 h2 h3
                  subst h1
                  subst h3
                  rw [← h2] at hC2
                  clear h2
                  have B5 : Below W.heap.size W (w2.alloc (.cells #[.int .i64 0, .int .i64 0] 26)) := bl_alloc (bl_then (bl_drew (Below.refl _ _)) hb2) _
                  have E3 := Kd.C_alloc hC2 (.cells #[.int .i64 0, .int .i64 0] 26)
                  have y1 : (w2.alloc (.cells #[.int .i64 0, .int .i64 0] 26)).cell? ⟨w2.heap.size, 0, none⟩ = some (.int .i64 0) := by simp
                  generalize w2.alloc (.cells #[.int .i64 0, .int .i64 0] 26) = Wf at *
                  have B5 := Lib.hid B5
                  have E3 := Lib.hid E3
                  clear hR2 hC2 hb2
                  clear TU n1 n2 n3 n4 n5 x2 him him2 hug
                  have E1 := Lib.hid (Kd.C_below C1.out B5.out)
                  have G5 := HG _ B5.out
                  clear C1 HG
                  go_wp2_with fail
                  have hi3 : ∀ x : Nat, x < i → M.getD x zTok = L.getD x zTok := by
                    intro x hx
                    have h1 := HN.out
                    rw [← HM.out, List.getD_eq_getElem?_getD, List.getD_eq_getElem?_getD, List.getElem?_append_left (by rw [List.length_take]; omega), List.getElem?_take_of_lt hx]
                  have hi4 : ∀ x : Nat, i ≤ x → x < k → M.getD x zTok = shiftTok 6 (L.getD x zTok) := by
                    intro x hx hx2
                    have h1 := HN.out
                    rw [← HM.out, List.getD_eq_getElem?_getD, List.getD_eq_getElem?_getD, List.getElem?_append_right (by rw [List.length_take]; omega), List.length_take, h1, Nat.min_eq_left (by omega), List.getElem?_map, List.getElem?_drop, show i + (x - i) = x by omega, List.getElem?_eq_getElem (by omega)]
                    rfl
                  have HI3 := Lib.hid hi3
                  have HI4 := Lib.hid hi4
                  clear hi3 hi4 y1
                  go_loopw [16] (fun t wr => ∃ x : Nat, t = .int .i64 x ∧ x ≤ k ∧ Hid (Below Wf.heap.size Wf wr)) (fun t _ => k - (intOf t).toNat)
                  case atStart => exact ⟨0, rfl, Nat.zero_le _, Lib.hid (Below.refl _ _)⟩
                  case round =>
                    obtain ⟨x, rfl, hx, HB⟩ := hrel
                    by_cases hlt : x < k
                    · obtain ⟨ad3, e3, y0, y1, y2⟩ := atTok (Kd.C_below E3.out HB.out) x (by omega) (by omega)
                      subst e3
                      simp only [Int.toNat_natCast] at y0 y1 y2
                      have t0 := World.block_lt_of_cell? _ _ y0
                      obtain ⟨ad1, e1, x0, x1, x2⟩ := atTok (Kd.C_below E1.out HB.out) x (by omega) (by omega)
                      obtain rfl := Option.some.inj e1
                      simp only [Int.toNat_natCast] at x0 x1 x2
                      have t1 := World.block_lt_of_cell? _ _ x0
                      have hmem : L.getD x zTok ∈ L := by
                        have hl := HN.out
                        rw [List.getD_eq_getElem?_getD, List.getElem?_eq_getElem (by omega)]; exact List.getElem_mem _
                      have hox := HO.out _ hmem
                      by_cases hxi : x < i
                      · rw [HI3.out x hxi] at y0 y1 y2
                        obtain ⟨⟨ka, ta, pa⟩, hta⟩ : ∃ t, L.getD x zTok = t := ⟨_, rfl⟩
                        rw [hta] at x0 x1 x2 y0 y1 y2
                        simp only [] at x0 x1 x2 y0 y1 y2
                        have hxi2 : (x : Int) < (i : Int) := by omega
                        have hxi3 : ¬ ((i : Int) ≤ (x : Int)) := by omega
                        have hxi4 : ¬ (i ≤ x) := by omega
                        clear hta hmem hox
                        go_wp2_with fail
                        go_quiet (fail)
                        go_wp2_with fail
                        go_roundw
                        case rel => exact ⟨x + 1, by go_num, by omega, Lib.hid (by repeat (first | exact HB.out | refine bl_alloc ?_ _ | refine pw_below_drewN ?_ _))⟩
                        case measure => simp [intOf]; omega
                      · have hi := HI4.out x (by omega) hlt
                        obtain ⟨⟨ka, ta, pa⟩, hta⟩ : ∃ t, L.getD x zTok = t := ⟨_, rfl⟩
                        rw [hta] at hi x0 x1 x2 hox
                        rw [hi] at y0 y1 y2
                        obtain ⟨_, _, hp0, hp1⟩ := hox
                        replace hp0 : 0 ≤ pa := hp0
                        replace hp1 : pa < s.size := hp1
                        have hp2 : pa < 2000 := by omega
                        replace y0 : wr.cell? (ad3.add (x * 3)) = some (.int .i64 ka) := y0
                        replace y1 : wr.cell? ⟨(ad3.add (x * 3)).block, (ad3.add (x * 3)).off + 1, none⟩ = some (.string ta) := y1
                        replace y2 : wr.cell? ⟨(ad3.add (x * 3)).block, (ad3.add (x * 3)).off + 2, none⟩ = some (.int .i64 (pa + 6)) := y2
                        simp only [] at x0 x1 x2
                        have hxi3 : (i : Int) ≤ (x : Int) := by omega
                        have hxi4 : i ≤ x := by omega
                        clear hta hmem hi hxi hp1
                        go_wp2_with fail
                        go_quiet (fail)
                        go_wp2_with fail
                        go_roundw
                        case rel => exact ⟨x + 1, by go_num, by omega, Lib.hid (by repeat (first | exact HB.out | refine bl_alloc ?_ _ | refine pw_below_drewN ?_ _))⟩
                        case measure => simp [intOf]; omega
                    · have B6 := Lib.hid ((B1.out.trans (B5.out.mono B1.out.size)).trans (HB.out.mono (Nat.le_trans B1.out.size B5.out.size)))
                      go_wp2_with fail
                      refine (lexWakes_any _ (G5.below HB.out)).mono ?_
                      rintro e2 w4 ⟨rfl, hb4⟩
                      have B4 := Lib.hid (B6.out.trans (hb4.mono B6.out.size))
                      clear hb4
                      go_wp2_with fail
                      go_ret
                      exact ⟨rfl, B4.out⟩
              · as_aux_lemma =>
                  have hR4 := R_setBelow hR2 (p := ⟨W.heap.size, 0, none⟩) (by simp) (.int .i64 0)
                  have hR3 := R_setBelow hR4 (p := ⟨W.heap.size, 1, none⟩) (by simp) (.int .i64 0)
                  clear hR4
                  obtain ⟨Ad9, c9, hv9, _, hC2⟩ := Kd.R_reads hR3
                  injection hv9 with h1 h2 h3
                  subst h1
                  subst h3
                  rw [← h2] at hC2
                  clear h2
                  have B5 : Below W.heap.size W ((w2.setCell ⟨W.heap.size, 0, none⟩ (.int .i64 0)).setCell ⟨W.heap.size, 1, none⟩ (.int .i64 0)) := bl_set (bl_set (bl_then (bl_drew (bl_alloc (Below.refl _ _) _)) hb2) (Nat.le_refl _) _) (Nat.le_refl _) _
                  have y1 : ((w2.setCell ⟨W.heap.size, 0, none⟩ (.int .i64 0)).setCell ⟨W.heap.size, 1, none⟩ (.int .i64 0)).cell? ⟨W.heap.size, 0, none⟩ = some (.int .i64 0) := (World.cell?_setCell_other _ _ _ _ (by simp)).trans (World.cell?_setCell_same _ _ _ x5)
                  generalize (w2.setCell ⟨W.heap.size, 0, none⟩ (.int .i64 0)).setCell ⟨W.heap.size, 1, none⟩ (.int .i64 0) = Wf at *
                  have B5 := Lib.hid B5
                  have E3 := Lib.hid hC2
                  clear hR2 hR3 hC2 hb2 x5 x6 x7
                  clear TU n1 n2 n3 n4 n5 x2 him him2 hug
                  have E1 := Lib.hid (Kd.C_below C1.out B5.out)
                  have G5 := HG _ B5.out
                  clear C1 HG
                  go_wp2_with fail
                  have hi3 : ∀ x : Nat, x < i → M.getD x zTok = L.getD x zTok := by
                    intro x hx
                    have h1 := HN.out
                    rw [← HM.out, List.getD_eq_getElem?_getD, List.getD_eq_getElem?_getD, List.getElem?_append_left (by rw [List.length_take]; omega), List.getElem?_take_of_lt hx]
                  have hi4 : ∀ x : Nat, i ≤ x → x < k → M.getD x zTok = shiftTok 6 (L.getD x zTok) := by
                    intro x hx hx2
                    have h1 := HN.out
                    rw [← HM.out, List.getD_eq_getElem?_getD, List.getD_eq_getElem?_getD, List.getElem?_append_right (by rw [List.length_take]; omega), List.length_take, h1, Nat.min_eq_left (by omega), List.getElem?_map, List.getElem?_drop, show i + (x - i) = x by omega, List.getElem?_eq_getElem (by omega)]
                    rfl
                  have HI3 := Lib.hid hi3
                  have HI4 := Lib.hid hi4
                  clear hi3 hi4 y1
                  go_loopw [16] (fun t wr => ∃ x : Nat, t = .int .i64 x ∧ x ≤ k ∧ Hid (Below Wf.heap.size Wf wr)) (fun t _ => k - (intOf t).toNat)
                  case atStart => exact ⟨0, rfl, Nat.zero_le _, Lib.hid (Below.refl _ _)⟩
                  case round =>
                    obtain ⟨x, rfl, hx, HB⟩ := hrel
                    by_cases hlt : x < k
                    · obtain ⟨ad3, e3, y0, y1, y2⟩ := atTok (Kd.C_below E3.out HB.out) x (by omega) (by omega)
                      subst e3
                      simp only [Int.toNat_natCast] at y0 y1 y2
                      have t0 := World.block_lt_of_cell? _ _ y0
                      obtain ⟨ad1, e1, x0, x1, x2⟩ := atTok (Kd.C_below E1.out HB.out) x (by omega) (by omega)
                      obtain rfl := Option.some.inj e1
                      simp only [Int.toNat_natCast] at x0 x1 x2
                      have t1 := World.block_lt_of_cell? _ _ x0
                      have hmem : L.getD x zTok ∈ L := by
                        have hl := HN.out
                        rw [List.getD_eq_getElem?_getD, List.getElem?_eq_getElem (by omega)]; exact List.getElem_mem _
                      have hox := HO.out _ hmem
                      by_cases hxi : x < i
                      · rw [HI3.out x hxi] at y0 y1 y2
                        obtain ⟨⟨ka, ta, pa⟩, hta⟩ : ∃ t, L.getD x zTok = t := ⟨_, rfl⟩
                        rw [hta] at x0 x1 x2 y0 y1 y2
                        simp only [] at x0 x1 x2 y0 y1 y2
                        have hxi2 : (x : Int) < (i : Int) := by omega
                        have hxi3 : ¬ ((i : Int) ≤ (x : Int)) := by omega
                        have hxi4 : ¬ (i ≤ x) := by omega
                        clear hta hmem hox
                        go_wp2_with fail
                        go_quiet (fail)
                        go_wp2_with fail
                        go_roundw
                        case rel => exact ⟨x + 1, by go_num, by omega, Lib.hid (by repeat (first | exact HB.out | refine bl_alloc ?_ _ | refine pw_below_drewN ?_ _))⟩
                        case measure => simp [intOf]; omega
                      · have hi := HI4.out x (by omega) hlt
                        obtain ⟨⟨ka, ta, pa⟩, hta⟩ : ∃ t, L.getD x zTok = t := ⟨_, rfl⟩
                        rw [hta] at hi x0 x1 x2 hox
                        rw [hi] at y0 y1 y2
                        obtain ⟨_, _, hp0, hp1⟩ := hox
                        replace hp0 : 0 ≤ pa := hp0
                        replace hp1 : pa < s.size := hp1
                        have hp2 : pa < 2000 := by omega
                        replace y0 : wr.cell? (ad3.add (x * 3)) = some (.int .i64 ka) := y0
                        replace y1 : wr.cell? ⟨(ad3.add (x * 3)).block, (ad3.add (x * 3)).off + 1, none⟩ = some (.string ta) := y1
                        replace y2 : wr.cell? ⟨(ad3.add (x * 3)).block, (ad3.add (x * 3)).off + 2, none⟩ = some (.int .i64 (pa + 6)) := y2
                        simp only [] at x0 x1 x2
                        have hxi3 : (i : Int) ≤ (x : Int) := by omega
                        have hxi4 : i ≤ x := by omega
                        clear hta hmem hi hxi hp1
                        go_wp2_with fail
                        go_quiet (fail)
                        go_wp2_with fail
                        go_roundw
                        case rel => exact ⟨x + 1, by go_num, by omega, Lib.hid (by repeat (first | exact HB.out | refine bl_alloc ?_ _ | refine pw_below_drewN ?_ _))⟩
                        case measure => simp [intOf]; omega
                    · have B6 := Lib.hid ((B1.out.trans (B5.out.mono B1.out.size)).trans (HB.out.mono (Nat.le_trans B1.out.size B5.out.size)))
                      go_wp2_with fail
                      refine (lexWakes_any _ (G5.below HB.out)).mono ?_
                      rintro e2 w4 ⟨rfl, hb4⟩
                      have B4 := Lib.hid (B6.out.trans (hb4.mono B6.out.size))
                      clear hb4
                      go_wp2_with fail
                      go_ret
                      exact ⟨rfl, B4.out⟩

set_option maxRecDepth 20000 in
set_option maxHeartbeats 1000000 in
theorem lexStands_any (s : ByteArray) (n : Int) (w : World) (hs : s.size ≤ 140737488351232) (hn : 0 ≤ n ∧ n < 256) (hG : Glob w) :
    Calls Tryd.prog 4 #[.string s, .int .u8 n] w (lwPost w) := by
  obtain ⟨m, rfl⟩ : ∃ m : Nat, n = m := ⟨n.toNat, by omega⟩
  by_cases hbig : 2000 < s.size
  · have hb : (2000 : Int) < (s.size : Int) := by omega
    go_enter Tryd.func4, Tryd.ntmps4
    go_wp2_with fail
    refine (lexWakes_any w hG).mono ?_
    rintro e w1 ⟨rfl, hb⟩
    go_wp2_with fail
    go_ret
    exact ⟨rfl, hb⟩
  · exact lexStands_near s m (by omega) w (by omega) hG
end Go.Proofs.YtcajdkncohcaeaaDoor
