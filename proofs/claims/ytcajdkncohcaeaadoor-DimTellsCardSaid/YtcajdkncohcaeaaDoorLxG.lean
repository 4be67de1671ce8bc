import Derived.Test.YtcajdkncohcaeaaDoorLxF
import Derived.WalkSpells
namespace Go.Proofs.YtcajdkncohcaeaaDoor
set_option linter.unusedVariables false
set_option linter.unusedSimpArgs false
open Go.RowKit

/-- kind, text, how many bytes; 0 bytes: none -/
abbrev Tk := Int × ByteArray × Nat
def noTk : Tk := (0, ByteArray.empty, 0)
def tkV (t : Tk) : Value := .tuple #[.agg #[.int .i64 t.1, .string t.2.1, .int .i64 0], .int .i64 t.2.2]
def wordTk (s : ByteArray) : Tk := if wordFrom 0 s.data.toList > 16 then noTk else (1, s.extract 0 (wordFrom 0 s.data.toList), wordFrom 0 s.data.toList)

theorem cell_below {w w1 : World} (h : Below w.heap.size w w1) {a : Addr} {v : Value} (hc : w.cell? a = some v) : w1.cell? a = some v := (h.cell (World.block_lt_of_cell? w a hc)).trans hc
theorem Glob.below {w w' : World} (hG : Glob w) (h : Below w.heap.size w w') : Glob w' :=
  ⟨fun i hi => cell_below h (hG.kinds i hi), fun i hi => cell_below h (hG.digit i hi), fun i hi => cell_below h (hG.words i hi)⟩
theorem Glob.alloc {w : World} (hG : Glob w) (o : Obj) : Glob (w.alloc o) := hG.below ((Below.refl _ _).alloc (Nat.le_refl _) _)
theorem wordFrom_le : ∀ (l : List UInt8) (k : Nat), wordFrom k l ≤ k + l.length
  | [], k => Nat.le_refl _
  | c :: l, k => by
    unfold wordFrom; split
    · have := wordFrom_le l (k + 1); simp; omega
    · simp

set_option maxHeartbeats 1000000 in
theorem wordToken_any (s : ByteArray) (w : World) (hs : s.size ≤ 140737488351232) (hG : Glob w) :
    Calls Tryd.prog 73 #[.string s] w fun e w' => e = .returned (tkV (wordTk s)) ∧ Below w.heap.size w w' := by
  obtain ⟨n, hn⟩ : ∃ n, wordFrom 0 s.data.toList = n := ⟨_, rfl⟩
  have hn1 : n ≤ s.size := by rw [← hn]; have := wordFrom_le s.data.toList 0; rw [Lib.size_eq]; omega
  by_cases h : n > 16
  · have HF : Hid (wordTk s = noTk) := Lib.hid (by rw [wordTk, hn, if_pos h])
    go_enter Tryd.func73, Tryd.ntmps73
    go_wp2_with (go_at_call 56; (with_reducible refine (word_any s _ hs (hG.alloc _)).mono ?_); rintro e w' ⟨rfl, rfl⟩)
    rw [HF.out]
    exact bodyPost_ret (v := tkV noTk) (by simp [results, Tryd.results73, go_sem]; rfl) rfl ⟨rfl, by exact (Below.refl _ _).alloc (Nat.le_refl _) _⟩
  · have HF : Hid (wordTk s = (1, s.extract 0 n, n)) := Lib.hid (by rw [wordTk, hn, if_neg h])
    go_enter Tryd.func73, Tryd.ntmps73
    go_wp2_with (go_at_call 56; (with_reducible refine (word_any s _ hs (hG.alloc _)).mono ?_); rintro e w' ⟨rfl, rfl⟩)
    rw [HF.out]
    exact bodyPost_ret (v := tkV (1, s.extract 0 n, n)) (by simp [results, Tryd.results73, go_sem]; rfl) rfl ⟨rfl, by exact (Below.refl _ _).alloc (Nat.le_refl _) _⟩
theorem lenL_le (l : List UInt8) : lenL l ≤ l.length := by
  unfold lenL; split
  · omega
  · have h1 := fracL_le l (runL l) (runL_le l)
    have h2 : ∀ l : List UInt8, expL l ≤ l.length := by
      intro l
      unfold expL; simp only []
      have a1 := runL_le (l.drop 1)
      have a2 := runL_le ((l.drop 1).drop 1)
      simp only [List.length_drop] at a1 a2
      repeat' split
      all_goals omega
    have := h2 (l.drop (fracL l (runL l)))
    rw [List.length_drop] at this; omega

def behindNum : List UInt8 → Bool
  | [] => false
  | c :: _ => isLetter c.toNat || c.toNat == 46
def numTk (s : ByteArray) : Tk :=
  if 400 < lenL s.data.toList || behindNum (s.data.toList.drop (lenL s.data.toList)) then noTk else (2, s.extract 0 (lenL s.data.toList), lenL s.data.toList)

set_option maxHeartbeats 1000000 in
theorem numberToken_any (s : ByteArray) (w : World) (hs : s.size ≤ 140737488351232) (hG : Glob w) :
    Calls Tryd.prog 74 #[.string s] w fun e w' => e = .returned (tkV (numTk s)) ∧ Below w.heap.size w w' := by
  obtain ⟨n, hn⟩ : ∃ n, lenL s.data.toList = n := ⟨_, rfl⟩
  have hn1 : n ≤ s.size := by rw [← hn]; exact lenL_le _
  have hGa := hG.alloc (.cells #[.int .i64 0, .string ByteArray.empty, .int .i64 0] 36)
  by_cases h : 400 < n
  · have HF : Hid (numTk s = noTk) := Lib.hid (by rw [numTk, hn]; simp [h])
    go_enter Tryd.func74, Tryd.ntmps74
    go_wp2_with (go_at_call 58; (with_reducible refine (length_any s _ hs (hG.alloc _)).mono ?_); rintro e w' ⟨rfl, rfl⟩)
    rw [HF.out]
    exact bodyPost_ret (v := tkV noTk) (by simp [results, Tryd.results74, go_sem]; rfl) rfl ⟨rfl, by exact (Below.refl _ _).alloc (Nat.le_refl _) _⟩
  · by_cases hlt : n < s.size
    · have hd := drop_cons s n hlt
      have hb : s[n].toNat ≤ 255 := Nat.le_of_lt_succ s[n].toNat_lt
      cases h1 : isLetter s[n].toNat with
      | true =>
        have e1 : (kindOf s[n].toNat == 2) = true := (kind_letter _).trans h1
        have HF : Hid (numTk s = noTk) := Lib.hid (by rw [numTk, hn, hd, behindNum, h1]; simp)
        clear hd h1
        go_enter Tryd.func74, Tryd.ntmps74
        go_wp2_with (first | (go_at_call 58; (with_reducible refine (length_any s _ hs (hG.alloc _)).mono ?_); rintro e w' ⟨rfl, rfl⟩) | (go_at_call 71; (with_reducible refine (kind_any _ _ hb (hG.alloc _)).mono ?_); rintro e w' ⟨rfl, rfl⟩))
        rw [HF.out]
        exact bodyPost_ret (v := tkV noTk) (by simp [results, Tryd.results74, go_sem]; rfl) rfl ⟨rfl, by exact (Below.refl _ _).alloc (Nat.le_refl _) _⟩
      | false =>
        have e1 : (kindOf s[n].toNat == 2) = false := (kind_letter _).trans h1
        cases h2 : (s[n].toNat == 46) with
        | true =>
          have e2 : ((s[n].toNat : Int) == 46) = true := by simp at h2 ⊢; omega
          have HF : Hid (numTk s = noTk) := Lib.hid (by rw [numTk, hn, hd, behindNum, h1, h2]; simp)
          clear hd h1
          go_enter Tryd.func74, Tryd.ntmps74
          go_wp2_with (first | (go_at_call 58; (with_reducible refine (length_any s _ hs (hG.alloc _)).mono ?_); rintro e w' ⟨rfl, rfl⟩) | (go_at_call 71; (with_reducible refine (kind_any _ _ hb (hG.alloc _)).mono ?_); rintro e w' ⟨rfl, rfl⟩))
          rw [HF.out]
          exact bodyPost_ret (v := tkV noTk) (by simp [results, Tryd.results74, go_sem]; rfl) rfl ⟨rfl, by exact (Below.refl _ _).alloc (Nat.le_refl _) _⟩
        | false =>
          have e2 : ((s[n].toNat : Int) == 46) = false := by simp at h2 ⊢; omega
          have HF : Hid (numTk s = (2, s.extract 0 n, n)) := Lib.hid (by rw [numTk, hn, hd, behindNum, h1, h2]; simp [h])
          clear hd h1
          go_enter Tryd.func74, Tryd.ntmps74
          go_wp2_with (first | (go_at_call 58; (with_reducible refine (length_any s _ hs (hG.alloc _)).mono ?_); rintro e w' ⟨rfl, rfl⟩) | (go_at_call 71; (with_reducible refine (kind_any _ _ hb (hG.alloc _)).mono ?_); rintro e w' ⟨rfl, rfl⟩))
          rw [HF.out]
          exact bodyPost_ret (v := tkV (2, s.extract 0 n, n)) (by simp [results, Tryd.results74, go_sem]; rfl) rfl ⟨rfl, by exact (Below.refl _ _).alloc (Nat.le_refl _) _⟩
    · have HF : Hid (numTk s = (2, s.extract 0 n, n)) := Lib.hid (by rw [numTk, hn, List.drop_of_length_le (by rw [← Lib.size_eq]; omega), behindNum]; simp [h])
      go_enter Tryd.func74, Tryd.ntmps74
      go_wp2_with (first | (go_at_call 58; (with_reducible refine (length_any s _ hs (hG.alloc _)).mono ?_); rintro e w' ⟨rfl, rfl⟩))
      rw [HF.out]
      exact bodyPost_ret (v := tkV (2, s.extract 0 n, n)) (by simp [results, Tryd.results74, go_sem]; rfl) rfl ⟨rfl, by exact (Below.refl _ _).alloc (Nat.le_refl _) _⟩

def unitsTk (s : ByteArray) : Tk :=
  let e := Lib.indexByte s.data.toList 93
  if e < 2 ∨ e > 201 ∨ 0 ≤ Lib.indexByte (s.data.toList.take e.toNat) 10 then noTk else (4, s.extract 1 e.toNat, e.toNat + 1)

set_option maxRecDepth 20000 in
set_option maxHeartbeats 1000000 in
theorem unitsToken_any (s : ByteArray) (w : World) :
    Calls Tryd.prog 75 #[.string s] w fun e w' => e = .returned (tkV (unitsTk s)) ∧ Below w.heap.size w w' := by
  obtain ⟨i, hi⟩ : ∃ i, Lib.indexByte s.data.toList 93 = i := ⟨_, rfl⟩
  have hne := indexByte_lt s.data.toList 93
  rw [hi, ← Lib.size_eq] at hne
  by_cases h : i < 2 ∨ i > 201
  · have HF : Hid (unitsTk s = noTk) := Lib.hid (by simp only [unitsTk, hi]; rw [if_pos (by omega)])
    rcases h with h | h
    all_goals
      go_enter Tryd.func75, Tryd.ntmps75
      go_wp2_with (go_at_call 72; (with_reducible refine (indexByte_any _ _ _).mono ?_); rintro e w' ⟨rfl, rfl⟩)
      rw [HF.out]
      exact bodyPost_ret (v := tkV noTk) (by simp [results, Tryd.results75, go_sem]; rfl) rfl ⟨rfl, by exact (Below.refl _ _).alloc (Nat.le_refl _) _⟩
  · obtain ⟨j, rfl⟩ : ∃ j : Nat, i = j := ⟨i.toNat, by omega⟩
    have hj : j < s.size := by
      rcases hne with h1 | h1
      · omega
      · rw [h1] at hi; simp [Lib.indexByte] at hi
    have hj2 : 2 ≤ j := by omega
    have hj3 : j ≤ 201 := by omega
    obtain ⟨m, hm⟩ : ∃ m, Lib.indexByte (s.data.toList.take j) 10 = m := ⟨_, rfl⟩
    by_cases hneg : 0 ≤ m
    · have HF : Hid (unitsTk s = noTk) := Lib.hid (by simp only [unitsTk, hi, Int.toNat_natCast, hm]; rw [if_pos (by omega)])
      clear h hne
      go_enter Tryd.func75, Tryd.ntmps75
      go_wp2_with (first | (go_at_call 72; (with_reducible refine (indexByte_any _ _ _).mono ?_); rintro e w' ⟨rfl, rfl⟩) | (go_at_call 94; (with_reducible refine (contains1_any _ _ _).mono ?_); rintro e w' ⟨rfl, rfl⟩))
      rw [HF.out]
      exact bodyPost_ret (v := tkV noTk) (by simp [results, Tryd.results75, go_sem]; rfl) rfl ⟨rfl, by exact (Below.refl _ _).alloc (Nat.le_refl _) _⟩
    · have HF : Hid (unitsTk s = (4, s.extract 1 j, j + 1)) := Lib.hid (by simp only [unitsTk, hi, Int.toNat_natCast, hm]; rw [if_neg (by omega)])
      clear h hne
      have hj1 : 1 ≤ j := by omega
      have hj4 : (1 : Int) ≤ (j : Int) := by omega
      go_enter Tryd.func75, Tryd.ntmps75
      go_wp2_with (first | (go_at_call 72; (with_reducible refine (indexByte_any _ _ _).mono ?_); rintro e w' ⟨rfl, rfl⟩) | (go_at_call 94; (with_reducible refine (contains1_any _ _ _).mono ?_); rintro e w' ⟨rfl, rfl⟩))
      rw [HF.out]
      exact bodyPost_ret (v := tkV (4, s.extract 1 j, j + 1)) (by simp [results, Tryd.results75, go_sem]; rfl) rfl ⟨rfl, by exact (Below.refl _ _).alloc (Nat.le_refl _) _⟩
end Go.Proofs.YtcajdkncohcaeaaDoor
