import Derived.Test.YtcajdkncohcaeaaDoorLxQ
import Derived.Test.YtcajdkncohcaeaaDoorLxL
namespace Go.Proofs.YtcajdkncohcaeaaDoor
set_option linter.unusedVariables false
set_option linter.unusedSimpArgs false
open Go.RowKit Go.Proofs.YtcajdkncohcaeaaDoorW.PrintWords
attribute [local go_sem high] eqTok eqFlt

/-- keep.Tokens: are two rows of tokens alike -/
def kTokB (a b : Tok) : Bool := a.kind == b.kind && (a.text.toList == b.text.toList && a.pos == b.pos)
theorem kTokB_eq (a b : Tok) : kTokB a b = true ↔ a = b := by
  unfold kTokB
  simp only [Bool.and_eq_true, beq_iff_eq]
  constructor
  · rintro ⟨h1, h2, h3⟩
    have h2' : a.text = b.text := by apply ByteArray.ext; rw [← Array.toList_inj, ← Lib.toList_data, ← Lib.toList_data, h2]
    cases a; cases b; simp_all
  · rintro rfl; exact ⟨rfl, rfl, rfl⟩
def drawn (w w' : World) : Prop := ∃ n, w' = w.drewN n

set_option maxRecDepth 20000 in
set_option maxHeartbeats 2000000 in
theorem kTokens_any (A1 A2 : Option Addr) (n c1 c2 : Nat) (L : List Tok) (w : World) (h1 : Kd.C kTok w A1 n L) (h2 : Kd.C kTok w A2 n L) (hn : n ≤ 1000000) :
    Calls Tryd.prog 18 #[.slice A1 n c1, .slice A2 n c2] w fun e w' => e = .returned (.bool true) ∧ Below w.heap.size w w' := by
  have H1 := Lib.hid h1
  have H2 := Lib.hid h2
  clear h1 h2
  go_enter Tryd.func18, Tryd.ntmps18
  go_wp2_with fail
  go_loopw [5] (fun i wr => ∃ k : Nat, i = .int .i64 k ∧ k ≤ n ∧ Hid (Below w.heap.size w wr)) (fun i _ => n - (intOf i).toNat)
  case atStart => exact ⟨0, rfl, Nat.zero_le _, Lib.hid (Below.refl _ _)⟩
  case round =>
    obtain ⟨k, rfl, hk, HB⟩ := hrel
    by_cases hlt : k < n
    · obtain ⟨ad1, e1, x0, x1, x2⟩ := atTok (Kd.C_below H1.out HB.out) k (by omega) (by omega)
      obtain ⟨ad2, e2, y0, y1, y2⟩ := atTok (Kd.C_below H2.out HB.out) k (by omega) (by omega)
      subst e1
      subst e2
      simp only [Int.toNat_natCast] at x0 x1 x2 y0 y1 y2
      go_wp2_with fail
      go_quiet (fail)
      go_wp2_with fail
      go_roundw
      case rel => exact ⟨k + 1, by go_num, by omega, Lib.hid (by repeat (first | exact HB.out | refine pw_below_drewN ?_ _))⟩
      case measure => simp [intOf]; omega
    · go_wp2_with fail
      go_ret
      exact ⟨rfl, HB.out⟩

theorem isName_okFrom (s : ByteArray) : isName s = (okFrom 0 s.data.toList && ((decide (1 ≤ s.size) && decide (s.size ≤ 16)) && !Lib.containsS wordsZ s)) := by
  rw [isName_wordB, wordB]
  cases okFrom 0 s.data.toList <;> simp

set_option maxRecDepth 20000 in
set_option maxHeartbeats 4000000 in
theorem risName_any (s : ByteArray) (w : World) (hs : s.size ≤ 140737488351232) :
    Calls Tryd.prog 20 #[.string s] w fun e w' => e = .returned (.bool (isName s)) ∧ w = w' := by
  have H0 : Hid (isName s = (okFrom 0 s.data.toList && ((decide (1 ≤ s.size) && decide (s.size ≤ 16)) && !Lib.containsS wordsZ s))) := Lib.hid (isName_okFrom s)
  go_enter Tryd.func20, Tryd.ntmps20
  go_wp2_with fail
  go_loop [3] (fun i => ∃ k : Nat, i = .int .i64 k ∧ k ≤ s.size ∧ Hid (okFrom k (s.data.toList.drop k) = okFrom 0 s.data.toList)) (fun i => s.size - (intOf i).toNat)
  case atStart => exact ⟨0, rfl, Nat.zero_le _, Lib.hid rfl⟩
  case round =>
    obtain ⟨k, rfl, hk, HA⟩ := hrel
    by_cases hlt : k < s.size
    · have hd := drop_cons s k hlt
      have hb : s[k].toNat ≤ 255 := Nat.le_of_lt_succ s[k].toNat_lt
      obtain ⟨lt, hlt1⟩ : ∃ lt, isLetter s[k].toNat = lt := ⟨_, rfl⟩
      obtain ⟨dg, hdg1⟩ : ∃ dg, isDigit s[k].toNat = dg := ⟨_, rfl⟩
      have HS : Hid (((lt || (decide (0 < k) && dg)) && okFrom (k + 1) (s.data.toList.drop (k + 1))) = okFrom 0 s.data.toList) := Lib.hid (by rw [← HA.out, hd, okFrom, okc, hlt1, hdg1])
      have L1 : Hid (∀ w : World, Calls Tryd.prog 53 #[.int .u8 s[k].toNat] w fun e w' => e = .returned (.bool lt) ∧ w = w') := Lib.hid (fun w => by rw [← hlt1]; exact rletter_any _ w hb)
      have L2 : Hid (∀ w : World, Calls Tryd.prog 54 #[.int .u8 s[k].toNat] w fun e w' => e = .returned (.bool dg) ∧ w = w') := Lib.hid (fun w => by rw [← hdg1]; exact rdigit_any _ w hb)
      clear hd hlt1 hdg1 HA
      cases lt with
      | true =>
        have HS2 : Hid (okFrom (k + 1) (s.data.toList.drop (k + 1)) = okFrom 0 s.data.toList) := Lib.hid (by rw [← HS.out]; rfl)
        go_wp2_with (go_at_call 53; (with_reducible refine (L1.out _).mono ?_); rintro e w' ⟨rfl, rfl⟩)
        go_round
        case rel => exact ⟨k + 1, by go_num, by omega, HS2⟩
        case measure => simp [intOf]; omega
      | false =>
        rcases Nat.eq_zero_or_pos k with hk0 | hk0
        · have HF : Hid (isName s = false) := Lib.hid (by rw [H0.out, ← HS.out, hk0]; simp)
          have ek : ((k : Int) == 0) = true := by simp; omega
          have ek2 : (k == 0) = true := by simp; omega
          clear hk0
          go_wp2_with (go_at_call 53; (with_reducible refine (L1.out _).mono ?_); rintro e w' ⟨rfl, rfl⟩)
          go_ret
          exact ⟨by rw [HF.out]; rfl, rfl⟩
        · have ek : ((k : Int) == 0) = false := by simp; omega
          have ek2 : (k == 0) = false := by simp; omega
          cases dg with
          | true =>
            have HS2 : Hid (okFrom (k + 1) (s.data.toList.drop (k + 1)) = okFrom 0 s.data.toList) := Lib.hid (by rw [← HS.out, decide_eq_true hk0]; rfl)
            go_wp2_with (first | (go_at_call 53; (with_reducible refine (L1.out _).mono ?_); rintro e w' ⟨rfl, rfl⟩) | (go_at_call 54; (with_reducible refine (L2.out _).mono ?_); rintro e w' ⟨rfl, rfl⟩))
            go_round
            case rel => exact ⟨k + 1, by go_num, by omega, HS2⟩
            case measure => simp [intOf]; omega
          | false =>
            have HF : Hid (isName s = false) := Lib.hid (by rw [H0.out, ← HS.out]; simp)
            go_wp2_with (first | (go_at_call 53; (with_reducible refine (L1.out _).mono ?_); rintro e w' ⟨rfl, rfl⟩) | (go_at_call 54; (with_reducible refine (L2.out _).mono ?_); rintro e w' ⟨rfl, rfl⟩))
            go_ret
            exact ⟨by rw [HF.out]; rfl, rfl⟩
    · have HK : Hid (isName s = ((decide (1 ≤ s.size) && decide (s.size ≤ 16)) && !Lib.containsS wordsZ s)) := Lib.hid (by
        rw [H0.out, ← HA.out, List.drop_of_length_le (by rw [← Lib.size_eq]; omega), okFrom, Bool.true_and])
      clear HA H0
      by_cases h1 : 1 ≤ s.size
      · by_cases h2 : s.size ≤ 16
        · have e2 : decide ((s.size : Int) ≤ 16) = true := by simp; omega
          cases hown : Lib.containsS wordsZ s with
          | false =>
            have HF : Hid (isName s = true) := Lib.hid (by rw [HK.out, hown, decide_eq_true h1, decide_eq_true h2]; rfl)
            obtain ⟨n1, n2, n3, n4, n5, n6⟩ := own_no s hown
            have m1 := beq_eq_false_iff_ne.2 n1
            have m2 := beq_eq_false_iff_ne.2 n2
            have m3 := beq_eq_false_iff_ne.2 n3
            have m4 := beq_eq_false_iff_ne.2 n4
            have m5 := beq_eq_false_iff_ne.2 n5
            have m6 := beq_eq_false_iff_ne.2 n6
            clear hown
            go_wp2_with fail
            go_ret
            exact ⟨by rw [HF.out]; rfl, rfl⟩
          | true =>
            have HF : Hid (isName s = false) := Lib.hid (by rw [HK.out, hown]; simp)
            have hm := (Lib.containsS_iff wordsZ s).1 hown
            simp only [wordsZ, List.mem_cons, List.not_mem_nil, or_false] at hm
            have hl := fun l (h : s = bs l) => (by rw [h, bs_toList] : s.toList = l)
            clear hown
            rcases hm with hm | hm | hm | hm | hm | hm
            all_goals
              have hl1 := hl _ hm
              clear hl hm
              go_wp2_with fail
              go_ret
              exact ⟨by rw [HF.out]; rfl, rfl⟩
        · have e2 : decide ((s.size : Int) ≤ 16) = false := by simp; omega
          have HF : Hid (isName s = false) := Lib.hid (by rw [HK.out, decide_eq_false h2]; simp)
          go_wp2_with fail
          go_ret
          exact ⟨by rw [HF.out]; rfl, rfl⟩
      · have HF : Hid (isName s = false) := Lib.hid (by rw [HK.out, decide_eq_false h1]; simp)
        go_wp2_with fail
        go_ret
        exact ⟨by rw [HF.out]; rfl, rfl⟩
end Go.Proofs.YtcajdkncohcaeaaDoor
