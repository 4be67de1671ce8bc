import Derived.Test.YtcajdkncohcaeaaDoorLxK
namespace Go.Proofs.YtcajdkncohcaeaaDoor
set_option linter.unusedVariables false
set_option linter.unusedSimpArgs false
open Go.RowKit Go.Proofs.YtcajdkncohcaeaaDoorW.PrintWords
attribute [local go_sem high] eqTok eqFlt

def okc (k c : Nat) : Bool := isLetter c || (decide (0 < k) && isDigit c)
theorem okc_val (k c : Nat) : okc k c = decide ((97 ≤ c ∧ c ≤ 122) ∨ (65 ≤ c ∧ c ≤ 90) ∨ c = 95 ∨ (0 < k ∧ 48 ≤ c ∧ c ≤ 57)) := by
  rw [Bool.eq_iff_iff]; simp only [okc, isLetter, isDigit, Bool.or_eq_true, Bool.and_eq_true, decide_eq_true_eq, beq_iff_eq]; omega
def okFrom : Nat → List UInt8 → Bool
  | _, [] => true
  | k, c :: l => okc k c.toNat && okFrom (k + 1) l
def wordB (s : ByteArray) : Bool := (decide (1 ≤ s.size) && decide (s.size ≤ 16)) && okFrom 0 s.data.toList

theorem okFrom_wordFrom : ∀ (l : List UInt8) (k : Nat), okFrom k l = decide (wordFrom k l = k + l.length)
  | [], k => by simp [okFrom, wordFrom]
  | c :: l, k => by
    unfold okFrom wordFrom okc
    have ih := okFrom_wordFrom l (k + 1)
    have hle := wordFrom_le l (k + 1)
    split
    · rename_i h; rw [h, ih]; simp only [Bool.true_and, List.length_cons]; congr 1; rw [eq_iff_iff]; omega
    · rename_i h
      rw [Bool.eq_false_iff.2 h]; simp
theorem wordB_eq (s : ByteArray) : wordB s = (!s.toList.isEmpty && (decide (s.size ≤ 16) && decide (wordFrom 0 s.data.toList = s.size))) := by
  unfold wordB
  rw [okFrom_wordFrom, empty_size, ← Lib.size_eq, Nat.zero_add, Bool.and_assoc]
  rw [show decide (1 ≤ s.size) = !decide (s.size = 0) by rw [Bool.eq_iff_iff, Bool.not_eq_true', decide_eq_false_iff_not, decide_eq_true_eq]; omega]
theorem isName_wordB (s : ByteArray) : isName s = (wordB s && !Lib.containsS wordsZ s) := by
  rw [wordB_eq, isName]; simp only [Bool.and_assoc]

theorem extract_all (s : ByteArray) : s.extract 0 s.size = s := by
  apply ByteArray.ext; rw [← Array.toList_inj, Lib.extract_data]; simp [← Lib.size_eq]; rw [Lib.size_eq]; exact List.take_length
theorem extract_inj (s : ByteArray) (n : Nat) (h : n ≤ s.size) (e : s.extract 0 n = s) : n = s.size := by
  have := congrArg ByteArray.size e
  rw [ByteArray.size_extract] at this; omega

/-- a word by itself is one token -/
theorem word_one (s : ByteArray) (h : wordB s = true) : tokensOf s = ([⟨1, s, 0⟩], 0, 0) := by
  rw [wordB_eq, empty_size] at h
  simp only [Bool.and_eq_true, Bool.not_eq_true', decide_eq_false_iff_not, decide_eq_true_eq] at h
  obtain ⟨h0, h1, h2⟩ := h
  have hl := Lib.size_eq s
  cases he : s.data.toList with
  | nil => rw [he, List.length_nil] at hl; omega
  | cons c l =>
    have hlet : isLetter c.toNat = true := by
      rw [he, wordFrom] at h2
      split at h2
      · rename_i h; simpa using h
      · exact absurd h2.symm h0
    have hblank : isBlank c.toNat = false := by
      unfold isLetter isBlank at *; simp at hlet ⊢; omega
    have hnote : (c.toNat == 35) = false := by
      unfold isLetter at *; simp at hlet ⊢; omega
    have hskip : skipL false s.data.toList = 0 := by rw [he, skipL, hblank, hnote]; rfl
    have hk : kindOf c.toNat = 2 := by have := kind_letter c.toNat; rw [hlet] at this; simpa using this
    have ht : tokTk s = (1, s, s.size) := by
      unfold tokTk; rw [he]; simp only [hk, tokK, if_true]
      rw [wordTk, h2, if_neg (by omega), extract_all]
    rw [tokensOf, if_neg (by omega), lexAll, hskip]
    unfold lexA
    rw [if_pos (by omega), extract_all]
    simp only [ht, if_neg h0, Nat.zero_add]
    rw [List.drop_of_length_le (by omega)]
    obtain ⟨n, hn⟩ : ∃ n, s.size = n + 1 := ⟨s.size - 1, by omega⟩
    rw [hn]
    simp only [lexA, skipL, hn]
    simp [consTok, finTok]
theorem one_word (s : ByteArray) (h : tokensOf s = ([⟨1, s, 0⟩], 0, 0)) : wordB s = true := by
  unfold tokensOf at h
  split at h
  · simp at h
  · unfold lexAll lexA at h
    split at h
    · rename_i hlt
      simp only [] at h
      split at h
      · simp [finTok] at h
      · rename_i hn
        revert h
        cases lexA s.size _ s with
        | error e => intro h; simp [consTok, finTok] at h
        | ok l =>
          intro h
          simp only [consTok, finTok, Prod.mk.injEq, List.cons.injEq, Tok.mk.injEq, and_true] at h
          obtain ⟨⟨h1, h2, h3⟩, h4⟩ := h
          have h3' : skipL false s.data.toList = 0 := by omega
          rw [h3', extract_all] at h1 h2 hn
          have hl := Lib.size_eq s
          unfold tokTk at h1 h2 hn
          cases he : s.data.toList with
          | nil => rw [he, List.length_nil] at hl; omega
          | cons c l =>
            rw [he] at h1 h2 hn
            simp only [tokK] at h1 h2 hn
            split at h1
            · rename_i hk
              rw [if_pos hk] at h2 hn
              unfold wordTk at h1 h2 hn
              split at h1
              · simp [noTk] at h1
              · rename_i h16
                rw [if_neg h16] at h2 hn
                have hle := wordFrom_le s.data.toList 0
                have := extract_inj s _ (by omega) h2
                simp only [] at hn
                rw [wordB_eq, empty_size]
                simp only [Bool.and_eq_true, Bool.not_eq_true', decide_eq_false_iff_not, decide_eq_true_eq]
                refine ⟨?_, ?_, ?_⟩ <;> omega
            · split at h1
              · unfold numTk at h1; split at h1 <;> simp [noTk] at h1
              · split at h1
                · unfold unitsTk at h1; simp only [] at h1; split at h1 <;> simp [noTk] at h1
                · split at h1 <;> simp [noTk] at h1
    · simp [finTok] at h

def lwPost (w : World) (e : Ending) (w' : World) : Prop := e = .returned (.bool true) ∧ Below w.heap.size w w'

theorem wordB_no (s : ByteArray) (h : ¬ (1 ≤ s.size ∧ s.size ≤ 16)) : wordB s = false := by
  cases hw : wordB s with
  | false => rfl
  | true =>
    rw [wordB] at hw; simp only [Bool.and_eq_true, decide_eq_true_eq] at hw; omega
theorem bs_toList (l : List UInt8) : (bs l).toList = l := by rw [Lib.toList_data]; rfl
theorem own_no (s : ByteArray) (h : Lib.containsS wordsZ s = false) : ¬ s.toList = [117, 110, 105, 116] ∧ ¬ s.toList = [115, 111, 117, 114, 99, 101] ∧ ¬ s.toList = [99, 111, 118] ∧ ¬ s.toList = [108, 101, 116] ∧ ¬ s.toList = [111, 117, 116, 112, 117, 116] ∧ ¬ s.toList = [105, 110] := by
  have hm : ∀ l, bs l ∈ wordsZ → ¬ s.toList = l := by
    intro l hl he
    have : s = bs l := by
      apply ByteArray.ext; rw [← Array.toList_inj, ← Lib.toList_data, he]; rfl
    rw [← this] at hl
    have := (Lib.containsS_iff wordsZ s).2 hl
    rw [h] at this; cases this
  refine ⟨hm _ ?_, hm _ ?_, hm _ ?_, hm _ ?_, hm _ ?_, hm _ ?_⟩ <;> simp [wordsZ]
theorem own_word : ∀ s, Lib.containsS wordsZ s = true → wordB s = true := by
  intro s h
  have := (Lib.containsS_iff wordsZ s).1 h
  simp only [wordsZ, List.mem_cons, List.not_mem_nil, or_false] at this
  rcases this with rfl | rfl | rfl | rfl | rfl | rfl <;> decide
theorem ok_pos (s : ByteArray) (L : List Tok) (A : Int) (h : tokensOf s = (L, 0, A)) : A = 0 := by
  unfold tokensOf at h
  split at h
  · simp at h
  · cases hl : lexAll s with
    | ok l => rw [hl] at h; simp [finTok] at h; exact h.2.symm
    | error e => rw [hl] at h; simp [finTok] at h

/-- the calls of IsName and Tokens at a text -/
theorem isName_at (s : ByteArray) (b : Bool) (h : isName s = b) (w : World) (hs : s.size ≤ 140737488351232) (hG : Glob w) :
    Calls Tryd.prog 19 #[.string s] w fun e w' => e = .returned (.bool b) ∧ w = w' := by
  have := isName_any s w hs hG
  rwa [h] at this

set_option maxRecDepth 20000 in
set_option maxHeartbeats 4000000 in
/-- of a text that is too short, or too long, to be a word -/
theorem lexNames_far (s : ByteArray) (w : World) (hs : s.size ≤ 140737488351232) (hG : Glob w) (hbig : ¬ 200 < s.size) (hin : ¬ (1 ≤ s.size ∧ s.size ≤ 16)) :
    Calls Tryd.prog 5 #[.string s] w (lwPost w) := by
  have HWB := Lib.hid (wordB_no s hin)
  rcases (by omega : s.size < 1 ∨ 16 < s.size) with h1 | h1
  all_goals
    clear hin
    first
    | (have e2 : decide ((s.size : Int) ≤ 16) = false := by simp; omega)
    | skip
    go_enter Tryd.func5, Tryd.ntmps5
    go_wp2_with fail
    go_loop [3, 4] (fun v i => ∃ (k : Nat), i = .int .i64 k ∧ k ≤ s.size ∧ v = .bool false) (fun _ i => s.size - (intOf i).toNat)
    case atStart => exact ⟨0, rfl, Nat.zero_le _, rfl⟩
    case round =>
      obtain ⟨k, rfl, hk, rfl⟩ := hrel
      by_cases hlt : k < s.size
      · go_wp2_with fail
        go_round
        case rel => exact ⟨k + 1, by go_num, by omega, rfl⟩
        case measure => simp [intOf]; omega
      · skip
        obtain ⟨⟨L, E, A⟩, hT⟩ : ∃ t, tokensOf s = t := ⟨_, rfl⟩
        have hown : Lib.containsS wordsZ s = false := by
          cases ho : Lib.containsS wordsZ s with
          | false => rfl
          | true => have := own_word s ho; rw [HWB.out] at this; cases this
        obtain ⟨n1, n2, n3, n4, n5, n6⟩ := own_no s hown
        have N := Lib.hid (isName_at s false (by rw [isName_wordB, HWB.out]; rfl))
        clear hown
        by_cases hE : E = 0
        · subst hE
          obtain rfl := ok_pos s L A hT
          by_cases hn : L.length = 1
          · obtain ⟨⟨ka, tx, po⟩, rfl⟩ : ∃ t, L = [t] := by
              match L, hn with
              | [t], _ => exact ⟨t, rfl⟩
            have he : (ka == 1 && (tx.toList == s.toList && po == 0)) = false := by
              rw [Bool.eq_false_iff]; intro h
              simp only [Bool.and_eq_true, beq_iff_eq] at h
              obtain ⟨rfl, htx, rfl⟩ := h
              have : tx = s := by apply ByteArray.ext; rw [← Array.toList_inj, ← Lib.toList_data, ← Lib.toList_data, htx]
              subst this
              have := one_word tx hT
              rw [HWB.out] at this; cases this
            have T := Lib.hid (tokens_at s _ 1 _ _ hT rfl)
            clear hn hT
            go_wp2_with fail
            refine (T.out w hs hG).mono ?_
            rintro e w1 ⟨Ad, c1, rfl, hC, hb1⟩
            have B1 := Lib.hid (hb1.trans ((alloc_keep w1 (.cells #[.int .i64 0, .int .i64 0] 26)).mono hb1.size))
            have C1 := Lib.hid (Kd.C_alloc hC (.cells #[.int .i64 0, .int .i64 0] 26))
            have G1 := hG.below B1.out
            clear hC hb1
            obtain ⟨ad, e0, x0, x1, x2⟩ := atTok C1.out 0 (by decide) (by decide)
            subst e0
            replace x0 : (w1.alloc (.cells #[.int .i64 0, .int .i64 0] 26)).cell? ad = some (.int .i64 ka) := x0
            replace x1 : (w1.alloc (.cells #[.int .i64 0, .int .i64 0] 26)).cell? ⟨ad.block, ad.off + 1, none⟩ = some (.string tx) := x1
            replace x2 : (w1.alloc (.cells #[.int .i64 0, .int .i64 0] 26)).cell? ⟨ad.block, ad.off + 2, none⟩ = some (.int .i64 po) := x2
            go_wp2_with (first | (go_at_call 19; (with_reducible refine (N.out _ hs G1).mono ?_); rintro e w' ⟨rfl, rfl⟩))
            refine (lexWakes_any _ G1).mono ?_
            rintro e w2 ⟨rfl, hb2⟩
            have B2 := Lib.hid (bl_then B1.out hb2)
            clear hb2
            go_wp2_with fail
            go_ret
            exact ⟨rfl, B2.out⟩
          · obtain ⟨m, hm⟩ : ∃ m, L.length = m := ⟨_, rfl⟩
            have T := Lib.hid (tokens_at s L m _ _ hT hm)
            have em : ((m : Int) == 1) = false := by simp; omega
            clear hn hT hm
            go_wp2_with fail
            refine (T.out w hs hG).mono ?_
            rintro e w1 ⟨Ad, c1, rfl, hC, hb1⟩
            have B1 := Lib.hid (hb1.trans ((alloc_keep w1 (.cells #[.int .i64 0, .int .i64 0] 26)).mono hb1.size))
            have C1 := Lib.hid (Kd.C_alloc hC (.cells #[.int .i64 0, .int .i64 0] 26))
            have G1 := hG.below B1.out
            clear hC hb1
            go_wp2_with (first | (go_at_call 19; (with_reducible refine (N.out _ hs G1).mono ?_); rintro e w' ⟨rfl, rfl⟩))
            refine (lexWakes_any _ G1).mono ?_
            rintro e w2 ⟨rfl, hb2⟩
            have B2 := Lib.hid (bl_then B1.out hb2)
            clear hb2
            go_wp2_with fail
            go_ret
            exact ⟨rfl, B2.out⟩
        · have T := Lib.hid (tokens_at s L L.length _ _ hT rfl)
          have eE : (E == 0) = false := by simpa using hE
          clear hE hT
          go_wp2_with fail
          refine (T.out w hs hG).mono ?_
          rintro e w1 ⟨Ad, c1, rfl, hC, hb1⟩
          have B1 := Lib.hid (hb1.trans ((alloc_keep w1 (.cells #[.int .i64 E, .int .i64 A] 26)).mono hb1.size))
          have C1 := Lib.hid (Kd.C_alloc hC (.cells #[.int .i64 E, .int .i64 A] 26))
          have G1 := hG.below B1.out
          clear hC hb1
          go_wp2_with (first | (go_at_call 19; (with_reducible refine (N.out _ hs G1).mono ?_); rintro e w' ⟨rfl, rfl⟩))
          refine (lexWakes_any _ G1).mono ?_
          rintro e w2 ⟨rfl, hb2⟩
          have B2 := Lib.hid (bl_then B1.out hb2)
          clear hb2
          go_wp2_with fail
          go_ret
          exact ⟨rfl, B2.out⟩
end Go.Proofs.YtcajdkncohcaeaaDoor
