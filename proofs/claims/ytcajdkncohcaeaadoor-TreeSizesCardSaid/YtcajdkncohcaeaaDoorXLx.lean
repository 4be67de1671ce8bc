import Derived.Test.YtcajdkncohcaeaaDoorProg
import Derived.Test.YtcajdkncohcaeaaDoorRows
import Derived.Below
import Derived.Deep.Draws
import Derived.OwnWalk
import Derived.Tactics
import Derived.WalkKit
import Derived.KernelRfl
import Derived.RowKit3
import Derived.Deep.LoopGhost
import Derived.Deep.QuietTactic
import Derived.BigQuiet
import Derived.WideLaws
import Derived.Lib.Hide
import Derived.Outline
import Derived.Shelf.Strings.Builder1
import Derived.Shelf.Strings.Builder2
import Derived.Shelf.Strings.OnBuilder
import Derived.Shelf.Small.Strs
import Derived.Shelf.Small.Wraps
import Derived.Shelf.Strings.BuilderF
import Derived.Shelf.Strings.BuilderK
import Derived.Shelf.Strconv.Itoa0
import Derived.Shelf.Strconv.Itoa1
import Derived.Shelf.LaysM
import Derived.Shelf.Strconv.Itoa2
import Derived.Shelf.Strconv.Itoa3
import Derived.Shelf.Strings.Search1
import Derived.Shelf.Strings.Search2
import Derived.Shelf.Strings.Search3
import Derived.Shelf.Strings.Shaped
import Derived.Shelf.Strings.Prefix
import Derived.Shelf.Slices.Turned
import Derived.WalkLawsBesides
import Derived.Lib.IndexBytes
import Derived.WalkSpells
import Derived.Test.YtcajdkncohcaeaaDoorXW
import Derived.ProofKit
import Derived.LaidMore
import Derived.OpenShut
import Derived.Stop.Joined
import Derived.Lib.LaidTab
import Derived.Test.YtcajdkncohcaeaaDoorTie
import Derived.Test.YtcajdkncohcaeaaDoorCards
import Derived.ShutString
import Derived.ChangeOld
import Derived.SizedLaws
import Derived.SevenTiedAt
section
namespace Go.Proofs.YtcajdkncohcaeaaDoor
set_option linter.unusedVariables false
set_option linter.unusedSimpArgs false
open Go.RowKit
def isLetter (c : Nat) : Bool := (97 ≤ c && c ≤ 122) || (65 ≤ c && c ≤ 90) || c == 95
def isDigit (c : Nat) : Bool := 48 ≤ c && c ≤ 57
def kindOf (c : Nat) : Int :=
  if c == 32 || c == 9 || c == 10 then 1 else if isLetter c then 2 else if isDigit c then 3
  else if c == 40 || c == 41 || c == 43 || c == 45 || c == 42 || c == 47 || c == 94 || c == 61 || c == 59 || c == 58 then 4
  else if c == 35 then 5 else if c == 91 then 6 else 0
def bs (l : List UInt8) : ByteArray := ⟨l.toArray⟩
/-- the words that are no names -/
def wordsZ : List ByteArray := [bs [117, 110, 105, 116], bs [115, 111, 117, 114, 99, 101], bs [99, 111, 118], bs [108, 101, 116], bs [111, 117, 116, 112, 117, 116], bs [105, 110]]
structure Glob (w : World) : Prop where
  kinds : ∀ i : Nat, i < 128 → w.cell? ⟨2, i, none⟩ = some (.int .i64 (kindOf i))
  digit : ∀ i : Nat, i < 256 → w.cell? ⟨3, i, none⟩ = some (.bool (isDigit i))
  words : ∀ j : Nat, j < wordsZ.length → w.cell? ⟨0, j, none⟩ = some (.string (wordsZ.getD j ByteArray.empty))
theorem kindOf_big {c : Nat} (h : 128 ≤ c) : kindOf c = 0 := by
  unfold kindOf isLetter isDigit
  simp; omega
set_option maxRecDepth 20000 in
set_option maxHeartbeats 400000 in
theorem kind_any (c : Nat) (w : World) (h1 : c ≤ 255) (hG : Glob w) :
    Calls Tryd.prog 71 #[.int .u8 c] w fun e w' => e = .returned (.int .i64 (kindOf c)) ∧ w = w' := by
  by_cases hb : c < 128
  · have hc := hG.kinds c (by omega)
    clear hG
    go_enter Tryd.func71, Tryd.ntmps71
    go_wp2
    go_ret
    exact ⟨rfl, rfl⟩
  · have e := kindOf_big (c := c) (by omega)
    have he := Lib.hid e
    clear e hG
    go_enter Tryd.func71, Tryd.ntmps71
    go_wp2
    go_ret
    exact ⟨by rw [he.out]; rfl, rfl⟩
end Go.Proofs.YtcajdkncohcaeaaDoor
end
section
namespace Go.Proofs.YtcajdkncohcaeaaDoor
set_option linter.unusedVariables false
set_option linter.unusedSimpArgs false
open Go.RowKit
theorem drop_cons (s : ByteArray) (k : Nat) (h : k < s.size) : s.data.toList.drop k = s[k] :: s.data.toList.drop (k + 1) := by
  rw [List.drop_eq_getElem_cons (by simpa using h)]; rfl
/-- how many word bytes, where k are read -/
def wordFrom : Nat → List UInt8 → Nat
  | k, [] => k
  | k, c :: l => if isLetter c.toNat || (decide (0 < k) && isDigit c.toNat) then wordFrom (k + 1) l else k
theorem kind_letter (c : Nat) : (kindOf c == 2) = isLetter c := by
  unfold kindOf
  split
  · rename_i h; simp at h; simp [isLetter]; omega
  · split
    · rename_i h; simp [h]
    · rename_i h; simp at h; rw [h]; repeat' split
      all_goals rfl
theorem kind_digit (c : Nat) : (kindOf c == 3) = isDigit c := by
  unfold kindOf
  split
  · rename_i h; simp at h; simp [isDigit]; omega
  · split
    · rename_i h; simp [isLetter, isDigit] at *; omega
    · split
      · rename_i h; simp [h]
      · rename_i h; simp at h; rw [h]; repeat' split
        all_goals rfl
set_option maxHeartbeats 1000000 in
theorem word_any (s : ByteArray) (w : World) (hs : s.size ≤ 140737488351232) (hG : Glob w) :
    Calls Tryd.prog 56 #[.string s] w fun e w' => e = .returned (.int .i64 (wordFrom 0 s.data.toList)) ∧ w = w' := by
  go_enter Tryd.func56, Tryd.ntmps56
  go_wp2_with fail
  go_loop [3] (fun n => ∃ k : Nat, k ≤ s.size ∧ n = .int .i64 k ∧ Hid (wordFrom k (s.data.toList.drop k) = wordFrom 0 s.data.toList)) (fun n => s.size - (intOf n).toNat)
  case atStart => exact ⟨0, Nat.zero_le _, rfl, Lib.hid rfl⟩
  case round =>
    obtain ⟨k, hk, rfl, HW⟩ := hrel
    by_cases hlt : k < s.size
    · have hd := drop_cons s k hlt
      have hb : s[k].toNat ≤ 255 := Nat.le_of_lt_succ s[k].toNat_lt
      cases h1 : isLetter s[k].toNat with
      | true =>
        have e1 : (kindOf s[k].toNat == 2) = true := (kind_letter _).trans h1
        have HS : Hid (wordFrom (k + 1) (s.data.toList.drop (k + 1)) = wordFrom 0 s.data.toList) := Lib.hid (by rw [← HW.out, hd, wordFrom, h1]; simp)
        clear hd h1 HW
        go_wp2_with (go_at_call 71; (with_reducible refine (kind_any _ _ hb hG).mono ?_); rintro e w' ⟨rfl, rfl⟩)
        go_round
        case rel => exact ⟨k + 1, by omega, by go_num, HS⟩
        case measure => simp [intOf]; omega
      | false =>
        have e1 : (kindOf s[k].toNat == 2) = false := (kind_letter _).trans h1
        by_cases hk0 : 0 < k
        · cases h2 : isDigit s[k].toNat with
          | true =>
            have e2 : (kindOf s[k].toNat == 3) = true := (kind_digit _).trans h2
            have HS : Hid (wordFrom (k + 1) (s.data.toList.drop (k + 1)) = wordFrom 0 s.data.toList) := Lib.hid (by rw [← HW.out, hd, wordFrom, h1, h2]; simp [hk0])
            clear hd h1 h2 HW
            go_wp2_with (go_at_call 71; (with_reducible refine (kind_any _ _ hb hG).mono ?_); rintro e w' ⟨rfl, rfl⟩)
            go_round
            case rel => exact ⟨k + 1, by omega, by go_num, HS⟩
            case measure => simp [intOf]; omega
          | false =>
            have e2 : (kindOf s[k].toNat == 3) = false := (kind_digit _).trans h2
            have HS : Hid (wordFrom 0 s.data.toList = k) := Lib.hid (by rw [← HW.out, hd, wordFrom, h1, h2]; simp)
            clear hd h1 h2 HW
            go_wp2_with (go_at_call 71; (with_reducible refine (kind_any _ _ hb hG).mono ?_); rintro e w' ⟨rfl, rfl⟩)
            go_ret
            exact ⟨by rw [HS.out]; rfl, rfl⟩
        · have HS : Hid (wordFrom 0 s.data.toList = k) := Lib.hid (by rw [← HW.out, hd, wordFrom, h1]; simp [hk0])
          clear hd h1 HW
          go_wp2_with (go_at_call 71; (with_reducible refine (kind_any _ _ hb hG).mono ?_); rintro e w' ⟨rfl, rfl⟩)
          go_ret
          exact ⟨by rw [HS.out]; rfl, rfl⟩
    · have HS : Hid (wordFrom 0 s.data.toList = k) := Lib.hid (by rw [← HW.out, List.drop_of_length_le (by simp; omega), wordFrom])
      clear HW
      go_wp2_with fail
      go_ret
      exact ⟨by rw [HS.out]; rfl, rfl⟩
end Go.Proofs.YtcajdkncohcaeaaDoor
end
section
namespace Go.Proofs
open Go.Shelf
def Tryd.lays103_ren : Go.Shelf.Ren := ⟨fun | 103 => 79 | 210 => 95 | 206 => 103 | n => n, fun | 9 => 9 | 4 => 4 | 24 => 105 | 3 => 3 | n => n, fun | n => n⟩
theorem Tryd.lays103 : Go.Proofs.Lays.n103 Tryd.prog Tryd.lays103_ren := {
  mixed := by kernel_rfl
  f103 := Tryd.func79.trans (congrArg some (by kernel_rfl))
  f206 := Tryd.func103.trans (congrArg some (by kernel_rfl))
  f210 := Tryd.func95.trans (congrArg some (by kernel_rfl))
  t3 := Tryd.underlying3
  a3 := Tryd.isAgg3
  z3 := Tryd.sizeOf3
  v3 := Tryd.zeroValue3
  t4 := Tryd.underlying4
  a4 := Tryd.isAgg4
  z4 := Tryd.sizeOf4
  v4 := Tryd.zeroValue4
  t9 := Tryd.underlying9
  a9 := Tryd.isAgg9
  z9 := Tryd.sizeOf9
  v9 := Tryd.zeroValue9
  t24 := Tryd.underlying105
  a24 := Tryd.isAgg105
  z24 := Tryd.sizeOf105
  v24 := Tryd.zeroValue105 }
open Go.RowKit in
/-- strings.CutPrefix: "CutPrefix returns s without the provided leading prefix string and reports whether it found the prefix. If s doesn't start with prefix, CutPrefix returns s, false. If prefix is the empty string, CutPrefix returns s, true.": IT RETURNS '(Lib.trimPrefix s p, Lib.hasPrefix s p)'; the world is as it was. (LAID: no walk: one application.) -/
theorem Tryd.strings_CutPrefix (s p : ByteArray) (w : World) :
    Calls Tryd.prog 79 #[.string s, .string p] w fun e w' => e = .returned (.tuple #[.string ⟨(Lib.trimPrefix s.data.toList p.data.toList).toArray⟩, .bool (Lib.hasPrefix s.data.toList p.data.toList)]) ∧ w' = w := Any.strings_CutPrefix Tryd.lays103 s p w
def Tryd.lays144_ren : Go.Shelf.Ren := ⟨fun | 144 => 94 | 143 => 102 | 219 => 110 | 217 => 93 | 225 => 116 | 224 => 117 | 267 => 118 | 266 => 101 | 314 => 121 | n => n, fun | 9 => 9 | 4 => 4 | 3 => 3 | 5 => 5 | 46 => 134 | 146 => 150 | 51 => 133 | n => n, fun | 1 => 4 | n => n⟩
theorem Tryd.lays144 : Go.Proofs.Lays.n144 Tryd.prog Tryd.lays144_ren := {
  mixed := by kernel_rfl
  f143 := Tryd.func102.trans (congrArg some (by kernel_rfl))
  f144 := Tryd.func94.trans (congrArg some (by kernel_rfl))
  f217 := Tryd.func93.trans (congrArg some (by kernel_rfl))
  f219 := Tryd.func110.trans (congrArg some (by kernel_rfl))
  f224 := Tryd.func117.trans (congrArg some (by kernel_rfl))
  f225 := Tryd.func116.trans (congrArg some (by kernel_rfl))
  f266 := Tryd.func101.trans (congrArg some (by kernel_rfl))
  f267 := Tryd.func118.trans (congrArg some (by kernel_rfl))
  f314 := Tryd.func121.trans (congrArg some (by kernel_rfl))
  t3 := Tryd.underlying3
  a3 := Tryd.isAgg3
  z3 := Tryd.sizeOf3
  v3 := Tryd.zeroValue3
  t4 := Tryd.underlying4
  a4 := Tryd.isAgg4
  z4 := Tryd.sizeOf4
  v4 := Tryd.zeroValue4
  t5 := Tryd.underlying5
  a5 := Tryd.isAgg5
  z5 := Tryd.sizeOf5
  v5 := Tryd.zeroValue5
  t9 := Tryd.underlying9
  a9 := Tryd.isAgg9
  z9 := Tryd.sizeOf9
  v9 := Tryd.zeroValue9
  t46 := Tryd.underlying134
  a46 := Tryd.isAgg134
  z46 := Tryd.sizeOf134
  v46 := Tryd.zeroValue134
  t51 := Tryd.underlying133
  a51 := Tryd.isAgg133
  z51 := Tryd.sizeOf133
  v51 := Tryd.zeroValue133
  t146 := Tryd.underlying150
  a146 := Tryd.isAgg150
  z146 := Tryd.sizeOf150
  v146 := Tryd.zeroValue150
  g1 := by kernel_rfl }
open Go.RowKit Go.Lib in
/-- strings.Contains: "Contains reports whether substr is within s.": AT A substr OF ONE BYTE c: IT RETURNS 'decide (0 ≤ Lib.indexByte s c)'; the world is as it was. (LAID: no walk: one application.) -/
theorem Tryd.strings_Contains_one (s : ByteArray) (c : UInt8) (w : World) :
    Calls Tryd.prog 94 #[.string s, .string ⟨#[c]⟩] w fun e w' => e = .returned (.bool (decide (0 ≤ Lib.indexByte s.data.toList c))) ∧ w' = w := Any.strings_Contains_one Tryd.lays144 s c w
def Tryd.lays110_ren : Go.Shelf.Ren := ⟨fun | 110 => 57 | 109 => 77 | n => n, fun | 31 => 84 | 9 => 9 | 4 => 4 | 3 => 3 | 0 => 0 | n => n, fun | n => n⟩
theorem Tryd.lays110 : Go.Proofs.Lays.n110 Tryd.prog Tryd.lays110_ren := {
  mixed := by kernel_rfl
  f109 := Tryd.func77.trans (congrArg some (by kernel_rfl))
  f110 := Tryd.func57.trans (congrArg some (by kernel_rfl))
  t0 := Tryd.underlying0
  a0 := Tryd.isAgg0
  z0 := Tryd.sizeOf0
  v0 := Tryd.zeroValue0
  t3 := Tryd.underlying3
  a3 := Tryd.isAgg3
  z3 := Tryd.sizeOf3
  v3 := Tryd.zeroValue3
  t4 := Tryd.underlying4
  a4 := Tryd.isAgg4
  z4 := Tryd.sizeOf4
  v4 := Tryd.zeroValue4
  t9 := Tryd.underlying9
  a9 := Tryd.isAgg9
  z9 := Tryd.sizeOf9
  v9 := Tryd.zeroValue9
  t31 := Tryd.underlying84
  a31 := Tryd.isAgg84
  z31 := Tryd.sizeOf84
  v31 := Tryd.zeroValue84 }
open Go.Lib in
/-- slices.Contains at []string: "Contains reports whether v is present in s.": IT RETURNS 'Lib.containsS (the elements) v', which is true just where v is among them ('Lib.containsS_iff'); the world is as it was. ITS CALLEE slices.Index IS MET BY ITS OWN CONTRACT OFF THE SHELF (lay that first): no loop is walked here. (LAID: no walk: one application.) -/
theorem Tryd.slices_Contains_string (b off n c : Nat) (zs : List ByteArray) (x : ByteArray) (w : World) (hz : n ≤ zs.length) (hbig : n ≤ 9223372036854775807) (hc : ∀ j, j < zs.length → w.cell? ⟨b, off + j, none⟩ = some (.string (zs.getD j ByteArray.empty))) :
    Calls Tryd.prog 57 #[.slice (some ⟨b, off, none⟩) n c, .string x] w fun e w' => e = .returned (.bool (Lib.containsS (zs.take n) x)) ∧ w' = w := Any.slices_Contains_string Tryd.lays110 b off n c zs x w hz hbig hc
end Go.Proofs
end
section
namespace Go.Proofs.YtcajdkncohcaeaaDoor
set_option linter.unusedVariables false
set_option linter.unusedSimpArgs false
open Go.RowKit
/-- how many digits a text begins with -/
def runL : List UInt8 → Nat
  | [] => 0
  | c :: l => if isDigit c.toNat then runL l + 1 else 0
theorem runL_le : ∀ l : List UInt8, runL l ≤ l.length
  | [] => Nat.le_refl _
  | c :: l => by
    unfold runL; split
    · simpa using runL_le l
    · omega
set_option maxHeartbeats 1000000 in
theorem run_any (s : ByteArray) (w : World) (hs : s.size ≤ 140737488351232) (hG : Glob w) :
    Calls Tryd.prog 78 #[.string s] w fun e w' => e = .returned (.int .i64 (runL s.data.toList)) ∧ w = w' := by
  go_enter Tryd.func78, Tryd.ntmps78
  go_wp2_with fail
  go_loop [3] (fun n => ∃ k : Nat, k ≤ s.size ∧ n = .int .i64 k ∧ Hid (k + runL (s.data.toList.drop k) = runL s.data.toList)) (fun n => s.size - (intOf n).toNat)
  case atStart => exact ⟨0, Nat.zero_le _, rfl, Lib.hid (by simp)⟩
  case round =>
    obtain ⟨k, hk, rfl, HW⟩ := hrel
    by_cases hlt : k < s.size
    · have hd := drop_cons s k hlt
      have hb : s[k].toNat ≤ 255 := Nat.le_of_lt_succ s[k].toNat_lt
      have hc := hG.digit s[k].toNat (by omega)
      cases h1 : isDigit s[k].toNat with
      | true =>
        rw [h1] at hc
        have HS : Hid (k + 1 + runL (s.data.toList.drop (k + 1)) = runL s.data.toList) := Lib.hid (by rw [← HW.out, hd, runL, h1]; simp; omega)
        clear hd h1 HW
        go_wp2_with fail
        go_round
        case rel => exact ⟨k + 1, by omega, by go_num, HS⟩
        case measure => simp [intOf]; omega
      | false =>
        rw [h1] at hc
        have HS : Hid (runL s.data.toList = k) := Lib.hid (by rw [← HW.out, hd, runL, h1]; simp)
        clear hd h1 HW
        go_wp2_with fail
        go_ret
        exact ⟨by rw [HS.out]; rfl, rfl⟩
    · have HS : Hid (runL s.data.toList = k) := Lib.hid (by rw [← HW.out, List.drop_of_length_le (by simp; omega), runL]; rfl)
      clear HW
      go_wp2_with fail
      go_ret
      exact ⟨by rw [HS.out]; rfl, rfl⟩
/-- behind an e: a sign, some digits -/
def expL (l : List UInt8) : Nat :=
  if Lib.hasPrefix l [101] then
    let t := l.drop 1
    if Lib.hasPrefix t [45] then (if runL (t.drop 1) = 0 then 0 else min (runL (t.drop 1)) 3 + 2)
    else if runL t = 0 then 0 else min (runL t) 3 + 1
  else 0
theorem cutPrefix_any (s p : ByteArray) (w : World) :
    Calls Tryd.prog 79 #[.string s, .string p] w fun e w' => e = .returned (.tuple #[.string ⟨(Lib.trimPrefix s.data.toList p.data.toList).toArray⟩, .bool (Lib.hasPrefix s.data.toList p.data.toList)]) ∧ w = w' :=
  (Tryd.strings_CutPrefix s p w).mono fun _ _ h => ⟨h.1, h.2.symm⟩
theorem contains1_any (s : ByteArray) (c : UInt8) (w : World) :
    Calls Tryd.prog 94 #[.string s, .string ⟨#[c]⟩] w fun e w' => e = .returned (.bool (decide (0 ≤ Lib.indexByte s.data.toList c))) ∧ w = w' :=
  (Tryd.strings_Contains_one s c w).mono fun _ _ h => ⟨h.1, h.2.symm⟩
/-- run at a list's text -/
theorem runB_any (l : List UInt8) (w : World) (hs : l.length ≤ 140737488351232) (hG : Glob w) :
    Calls Tryd.prog 78 #[.string ⟨l.toArray⟩] w fun e w' => e = .returned (.int .i64 (runL l)) ∧ w = w' :=
  run_any ⟨l.toArray⟩ w (by simpa [ByteArray.size] using hs) hG
set_option maxHeartbeats 1000000 in
theorem exponent_any (s : ByteArray) (w : World) (hs : s.size ≤ 140737488351232) (hG : Glob w) :
    Calls Tryd.prog 80 #[.string s] w fun e w' => e = .returned (.int .i64 (expL s.data.toList)) ∧ w = w' := by
  cases h1 : Lib.hasPrefix s.data.toList [101] with
  | false =>
    have HE : Hid (expL s.data.toList = 0) := Lib.hid (by simp [expL, h1])
    go_enter Tryd.func80, Tryd.ntmps80
    go_wp2_with (go_at_call 79; (with_reducible refine (cutPrefix_any _ _ _).mono ?_); rintro e w' ⟨rfl, rfl⟩)
    go_ret
    exact ⟨by rw [HE.out]; rfl, rfl⟩
  | true =>
    obtain ⟨t, ht⟩ : ∃ t, Lib.trimPrefix s.data.toList [101] = t := ⟨_, rfl⟩
    have ht2 : t = s.data.toList.drop 1 := by rw [← ht, Lib.trimPrefix, if_pos h1]; rfl
    have hl : t.length ≤ 140737488351232 := by rw [ht2]; simp; omega
    have HE : Hid (expL s.data.toList = if Lib.hasPrefix t [45] then (if runL (t.drop 1) = 0 then 0 else min (runL (t.drop 1)) 3 + 2)
      else if runL t = 0 then 0 else min (runL t) 3 + 1) := Lib.hid (by simp only [expL, h1, if_true, ← ht2])
    clear ht2
    cases h2 : Lib.hasPrefix t [45] with
    | false =>
      have h3 : Lib.trimPrefix t [45] = t := by rw [Lib.trimPrefix, if_neg (by simp [h2])]
      obtain ⟨n, hn⟩ : ∃ n, runL t = n := ⟨_, rfl⟩
      rcases (by omega : n = 0 ∨ (0 < n ∧ n < 3) ∨ 3 ≤ n) with hn0 | ⟨hn0, hn3⟩ | hn3
      · have HF : Hid (expL s.data.toList = 0) := Lib.hid (by rw [HE.out]; simp [h2, hn, hn0])
        subst hn0
        go_enter Tryd.func80, Tryd.ntmps80
        go_wp2_with (first | (go_at_call 79; (with_reducible refine (cutPrefix_any _ _ _).mono ?_); rintro e w' ⟨rfl, rfl⟩) | (go_at_call 78; (with_reducible refine (runB_any _ _ (by omega) hG).mono ?_); rintro e w' ⟨rfl, rfl⟩))
        go_ret
        exact ⟨by rw [HF.out]; rfl, rfl⟩
      · have HF : Hid (expL s.data.toList = n + 1) := Lib.hid (by rw [HE.out, if_neg (by simp [h2]), hn, if_neg (by omega)]; omega)
        have e0 : ((n : Int) == 0) = false := by simp; omega
        have e1 : min (n : Int) 3 = n := by omega
        go_enter Tryd.func80, Tryd.ntmps80
        go_wp2_with (first | (go_at_call 79; (with_reducible refine (cutPrefix_any _ _ _).mono ?_); rintro e w' ⟨rfl, rfl⟩) | (go_at_call 78; (with_reducible refine (runB_any _ _ (by omega) hG).mono ?_); rintro e w' ⟨rfl, rfl⟩))
        go_ret
        exact ⟨by rw [HF.out]; rfl, rfl⟩
      · have HF : Hid (expL s.data.toList = 3 + 1) := Lib.hid (by rw [HE.out, if_neg (by simp [h2]), hn, if_neg (by omega)]; omega)
        have e0 : ((n : Int) == 0) = false := by simp; omega
        have e1 : min (n : Int) 3 = 3 := by omega
        go_enter Tryd.func80, Tryd.ntmps80
        go_wp2_with (first | (go_at_call 79; (with_reducible refine (cutPrefix_any _ _ _).mono ?_); rintro e w' ⟨rfl, rfl⟩) | (go_at_call 78; (with_reducible refine (runB_any _ _ (by omega) hG).mono ?_); rintro e w' ⟨rfl, rfl⟩))
        go_ret
        exact ⟨by rw [HF.out]; rfl, rfl⟩
    | true =>
      obtain ⟨u, hu⟩ : ∃ u, Lib.trimPrefix t [45] = u := ⟨_, rfl⟩
      have hu2 : t.drop 1 = u := by rw [← hu, Lib.trimPrefix, if_pos h2]; rfl
      have hl2 : u.length ≤ 140737488351232 := by rw [← hu2]; simp; omega
      obtain ⟨n, hn⟩ : ∃ n, runL u = n := ⟨_, rfl⟩
      rcases (by omega : n = 0 ∨ (0 < n ∧ n < 3) ∨ 3 ≤ n) with hn0 | ⟨hn0, hn3⟩ | hn3
      · have HF : Hid (expL s.data.toList = 0) := Lib.hid (by rw [HE.out]; simp [h2, hu2, hn, hn0])
        subst hn0
        go_enter Tryd.func80, Tryd.ntmps80
        go_wp2_with (first | (go_at_call 79; (with_reducible refine (cutPrefix_any _ _ _).mono ?_); rintro e w' ⟨rfl, rfl⟩) | (go_at_call 78; (with_reducible refine (runB_any _ _ (by omega) hG).mono ?_); rintro e w' ⟨rfl, rfl⟩))
        go_ret
        exact ⟨by rw [HF.out]; rfl, rfl⟩
      · have HF : Hid (expL s.data.toList = n + 2) := Lib.hid (by rw [HE.out, if_pos h2, hu2, hn, if_neg (by omega)]; omega)
        have e0 : ((n : Int) == 0) = false := by simp; omega
        have e1 : min (n : Int) 3 = n := by omega
        go_enter Tryd.func80, Tryd.ntmps80
        go_wp2_with (first | (go_at_call 79; (with_reducible refine (cutPrefix_any _ _ _).mono ?_); rintro e w' ⟨rfl, rfl⟩) | (go_at_call 78; (with_reducible refine (runB_any _ _ (by omega) hG).mono ?_); rintro e w' ⟨rfl, rfl⟩))
        go_ret
        exact ⟨by rw [HF.out]; rfl, rfl⟩
      · have HF : Hid (expL s.data.toList = 3 + 2) := Lib.hid (by rw [HE.out, if_pos h2, hu2, hn, if_neg (by omega)]; omega)
        have e0 : ((n : Int) == 0) = false := by simp; omega
        have e1 : min (n : Int) 3 = 3 := by omega
        go_enter Tryd.func80, Tryd.ntmps80
        go_wp2_with (first | (go_at_call 79; (with_reducible refine (cutPrefix_any _ _ _).mono ?_); rintro e w' ⟨rfl, rfl⟩) | (go_at_call 78; (with_reducible refine (runB_any _ _ (by omega) hG).mono ?_); rintro e w' ⟨rfl, rfl⟩))
        go_ret
        exact ⟨by rw [HF.out]; rfl, rfl⟩
end Go.Proofs.YtcajdkncohcaeaaDoor
end
section
namespace Go.Proofs.YtcajdkncohcaeaaDoor
set_option linter.unusedVariables false
set_option linter.unusedSimpArgs false
open Go.RowKit
theorem expL_le (l : List UInt8) : expL l ≤ 5 := by
  unfold expL; simp only []; repeat' split
  all_goals omega
def fracL (l : List UInt8) (n : Nat) : Nat :=
  if Lib.hasPrefix (l.drop n) [46] && decide (0 < runL (l.drop (n + 1))) then n + (1 + runL (l.drop (n + 1))) else n
/-- the longest literal's bytes -/
def lenL (l : List UInt8) : Nat :=
  if runL l = 0 then 0 else fracL l (runL l) + expL (l.drop (fracL l (runL l)))
theorem hasPrefix_one (l : List UInt8) (n : Nat) (c : UInt8) (h : Lib.hasPrefix (l.drop n) [c] = true) : n < l.length := by
  by_cases hn : n < l.length
  · exact hn
  · rw [List.drop_of_length_le (by omega)] at h; simp [Lib.hasPrefix] at h
set_option maxHeartbeats 1000000 in
theorem length_any (s : ByteArray) (w : World) (hs : s.size ≤ 140737488351232) (hG : Glob w) :
    Calls Tryd.prog 58 #[.string s] w fun e w' => e = .returned (.int .i64 (lenL s.data.toList)) ∧ w = w' := by
  obtain ⟨l, hl⟩ : ∃ l, s.data.toList = l := ⟨_, rfl⟩
  have hsz : l.length = s.size := by rw [← hl]; rfl
  obtain ⟨n, hn⟩ : ∃ n, runL l = n := ⟨_, rfl⟩
  have hn1 : n ≤ s.size := by rw [← hn, ← hsz]; exact runL_le l
  by_cases hn0 : n = 0
  · have HF : Hid (lenL l = 0) := Lib.hid (by rw [lenL, hn, if_pos hn0])
    subst hn0
    go_enter Tryd.func58, Tryd.ntmps58
    go_wp2_with (go_at_call 78; (with_reducible refine (run_any _ _ hs hG).mono ?_); rintro e w' ⟨rfl, rfl⟩)
    go_ret
    exact ⟨by rw [hl, HF.out]; rfl, rfl⟩
  · have e0 : ((n : Int) == 0) = false := by simp; omega
    have ex : ∀ k, List.take (s.size - k) (l.drop k) = l.drop k := fun k => List.take_of_length_le (by rw [List.length_drop]; omega)
    have hz : ∀ k, (s.extract k s.size).size ≤ 140737488351232 := fun k => by rw [Lib.size_eq, Lib.extract_to_end]; simp; omega
    obtain ⟨r, hr⟩ : ∃ r, l.drop n = r := ⟨_, rfl⟩
    cases h2 : Lib.hasPrefix r [46] with
    | false =>
      have h3 : Lib.trimPrefix r [46] = r := by rw [Lib.trimPrefix, if_neg (by simp [h2])]
      have HF : Hid (lenL l = n + expL r) := Lib.hid (by rw [lenL, hn, if_neg hn0, fracL, hr, h2]; simp [hr])
      have he := expL_le r
      have hx := (ex n).trans hr
      have hz1 := hz n
      clear ex hz hr
      go_enter Tryd.func58, Tryd.ntmps58
      go_wp2_with (first | (go_at_call 78; (with_reducible refine (run_any _ _ hs hG).mono ?_); rintro e w' ⟨rfl, rfl⟩) | (go_at_call 79; (with_reducible refine (cutPrefix_any _ _ _).mono ?_); rintro e w' ⟨rfl, rfl⟩) | (go_at_call 80; (with_reducible refine (exponent_any _ _ hz1 hG).mono ?_); rintro e w' ⟨rfl, rfl⟩))
      go_ret
      exact ⟨by rw [hl, HF.out]; rfl, rfl⟩
    | true =>
      have hlt : n < l.length := hasPrefix_one l n 46 (by rw [hr]; exact h2)
      obtain ⟨u, hu⟩ : ∃ u, l.drop (n + 1) = u := ⟨_, rfl⟩
      have h3 : Lib.trimPrefix r [46] = u := by rw [Lib.trimPrefix, if_pos h2, ← hr, ← hu, List.drop_drop]; rfl
      have hlu : u.length ≤ 140737488351232 := by rw [← hu, List.length_drop]; omega
      obtain ⟨m, hm⟩ : ∃ m, runL u = m := ⟨_, rfl⟩
      have hm1 : n + 1 + m ≤ s.size := by have := runL_le u; rw [hm, ← hu, List.length_drop] at this; omega
      by_cases hm0 : m = 0
      · have HF : Hid (lenL l = n + expL r) := Lib.hid (by rw [lenL, hn, if_neg hn0, fracL, hr, h2, hu, hm, hm0]; simp [hr])
        have he := expL_le r
        have hx := (ex n).trans hr
        have hz1 := hz n
        subst hm0
        clear ex hz hr hu
        go_enter Tryd.func58, Tryd.ntmps58
        go_wp2_with (first | (go_at_call 78; (with_reducible refine (run_any s _ hs hG).mono ?_); rintro e w' ⟨rfl, rfl⟩) | (go_at_call 78; (with_reducible refine (runB_any u _ hlu hG).mono ?_); rintro e w' ⟨rfl, rfl⟩) | (go_at_call 79; (with_reducible refine (cutPrefix_any _ _ _).mono ?_); rintro e w' ⟨rfl, rfl⟩) | (go_at_call 80; (with_reducible refine (exponent_any _ _ hz1 hG).mono ?_); rintro e w' ⟨rfl, rfl⟩))
        go_ret
        exact ⟨by rw [hl, HF.out]; rfl, rfl⟩
      · have HF : Hid (lenL l = n + (1 + m) + expL (l.drop (n + (1 + m)))) := Lib.hid (by rw [lenL, hn, if_neg hn0, fracL, hr, h2, hu, hm]; simp [Nat.pos_of_ne_zero hm0])
        obtain ⟨q, hq⟩ : ∃ q, l.drop (n + (1 + m)) = q := ⟨_, rfl⟩
        have he := expL_le q
        have hx := (ex n).trans hr
        have hx2 := (ex (n + (1 + m))).trans hq
        have hz1 := hz (n + (1 + m))
        have e1 : decide ((m : Int) > 0) = true := by simp; omega
        have HG := HF.out
        rw [hq] at HG
        have HF := Lib.hid HG
        clear ex hz hr hu hq HG
        go_enter Tryd.func58, Tryd.ntmps58
        go_wp2_with (first | (go_at_call 78; (with_reducible refine (run_any s _ hs hG).mono ?_); rintro e w' ⟨rfl, rfl⟩) | (go_at_call 78; (with_reducible refine (runB_any u _ hlu hG).mono ?_); rintro e w' ⟨rfl, rfl⟩) | (go_at_call 79; (with_reducible refine (cutPrefix_any _ _ _).mono ?_); rintro e w' ⟨rfl, rfl⟩) | (go_at_call 80; (with_reducible refine (exponent_any _ _ hz1 hG).mono ?_); rintro e w' ⟨rfl, rfl⟩))
        go_ret
        exact ⟨by rw [hl, HF.out]; rfl, rfl⟩
end Go.Proofs.YtcajdkncohcaeaaDoor
end
section
namespace Go.Proofs.YtcajdkncohcaeaaDoor
set_option linter.unusedVariables false
set_option linter.unusedSimpArgs false
open Go.RowKit
def goodL (s : ByteArray) : Bool := !s.toList.isEmpty && (decide (s.size ≤ 400) && decide (lenL s.data.toList = s.size))
theorem empty_size (s : ByteArray) : s.toList.isEmpty = decide (s.size = 0) := by
  rw [Lib.toList_data, Lib.size_eq]; cases s.data.toList <;> simp
set_option maxHeartbeats 1000000 in
theorem lgood_any (s : ByteArray) (w : World) (hs : s.size ≤ 140737488351232) (hG : Glob w) :
    Calls Tryd.prog 21 #[.string s] w fun e w' => e = .returned (.bool (goodL s)) ∧ w = w' := by
  cases h1 : s.toList.isEmpty with
  | true =>
    have HF : Hid (goodL s = false) := Lib.hid (by simp [goodL, h1])
    go_enter Tryd.func21, Tryd.ntmps21
    go_wp2_with fail
    go_ret
    exact ⟨by rw [HF.out]; rfl, rfl⟩
  | false =>
    by_cases h2 : s.size ≤ 400
    · obtain ⟨n, hn⟩ : ∃ n, lenL s.data.toList = n := ⟨_, rfl⟩
      have HF : Hid (goodL s = decide (n = s.size)) := Lib.hid (by simp [goodL, h1, h2, hn])
      by_cases h3 : n = s.size
      · have e1 : (n == s.size) = true := by simp [h3]
        have e2 : ((n : Int) == (s.size : Int)) = true := by simp [h3]
        have HF := Lib.hid (HF.out.trans (decide_eq_true h3))
        clear h3
        go_enter Tryd.func21, Tryd.ntmps21
        go_wp2_with (go_at_call 58; (with_reducible refine (length_any s _ hs hG).mono ?_); rintro e w' ⟨rfl, rfl⟩)
        go_ret
        exact ⟨by rw [HF.out]; rfl, rfl⟩
      · have e1 : (n == s.size) = false := by simp [h3]
        have e2 : ((n : Int) == (s.size : Int)) = false := by simp; omega
        have HF := Lib.hid (HF.out.trans (decide_eq_false h3))
        clear h3
        go_enter Tryd.func21, Tryd.ntmps21
        go_wp2_with (go_at_call 58; (with_reducible refine (length_any s _ hs hG).mono ?_); rintro e w' ⟨rfl, rfl⟩)
        go_ret
        exact ⟨by rw [HF.out]; rfl, rfl⟩
    · have HF : Hid (goodL s = false) := Lib.hid (by simp [goodL, h2])
      go_enter Tryd.func21, Tryd.ntmps21
      go_wp2_with fail
      go_ret
      exact ⟨by rw [HF.out]; rfl, rfl⟩
def isName (s : ByteArray) : Bool :=
  !s.toList.isEmpty && (decide (s.size ≤ 16) && (decide (wordFrom 0 s.data.toList = s.size) && !Lib.containsS wordsZ s))
set_option maxHeartbeats 1000000 in
theorem isName_any (s : ByteArray) (w : World) (hs : s.size ≤ 140737488351232) (hG : Glob w) :
    Calls Tryd.prog 19 #[.string s] w fun e w' => e = .returned (.bool (isName s)) ∧ w = w' := by
  have hcon : ∀ w : World, Glob w → Calls Tryd.prog 57 #[.slice (some ⟨0, 0, none⟩) 6 6, .string s] w fun e w' => e = .returned (.bool (Lib.containsS wordsZ s)) ∧ w = w' := fun w hG =>
    (Tryd.slices_Contains_string 0 0 6 6 wordsZ s w (by decide) (by decide) (fun j hj => by rw [Nat.zero_add]; exact hG.words j hj)).mono fun _ _ h => ⟨h.1, h.2.symm⟩
  have HC := Lib.hid hcon
  clear hcon
  cases h1 : s.toList.isEmpty with
  | true =>
    have HF : Hid (isName s = false) := Lib.hid (by simp [isName, h1])
    go_enter Tryd.func19, Tryd.ntmps19
    go_wp2_with fail
    go_ret
    exact ⟨by rw [HF.out]; rfl, rfl⟩
  | false =>
    by_cases h2 : s.size ≤ 16
    · obtain ⟨n, hn⟩ : ∃ n, wordFrom 0 s.data.toList = n := ⟨_, rfl⟩
      have HF : Hid (isName s = (decide (n = s.size) && !Lib.containsS wordsZ s)) := Lib.hid (by simp [isName, h1, h2, hn])
      by_cases h3 : n = s.size
      · have e1 : (n == s.size) = true := by simp [h3]
        have e2 : ((n : Int) == (s.size : Int)) = true := by simp [h3]
        have HF := Lib.hid (HF.out.trans (by rw [decide_eq_true h3]; rfl : _ = !Lib.containsS wordsZ s))
        clear h3
        go_enter Tryd.func19, Tryd.ntmps19
        go_wp2_with (first | (go_at_call 56; (with_reducible refine (word_any s _ hs hG).mono ?_); rintro e w' ⟨rfl, rfl⟩) | (go_at_call 57; (with_reducible refine (HC.out _ hG).mono ?_); rintro e w' ⟨rfl, rfl⟩))
        go_ret
        exact ⟨by rw [HF.out]; rfl, rfl⟩
      · have e1 : (n == s.size) = false := by simp [h3]
        have e2 : ((n : Int) == (s.size : Int)) = false := by simp; omega
        have HF := Lib.hid (HF.out.trans (by rw [decide_eq_false h3]; rfl : _ = false))
        clear h3
        go_enter Tryd.func19, Tryd.ntmps19
        go_wp2_with (first | (go_at_call 56; (with_reducible refine (word_any s _ hs hG).mono ?_); rintro e w' ⟨rfl, rfl⟩))
        go_ret
        exact ⟨by rw [HF.out]; rfl, rfl⟩
    · have HF : Hid (isName s = false) := Lib.hid (by simp [isName, h2])
      go_enter Tryd.func19, Tryd.ntmps19
      go_wp2_with fail
      go_ret
      exact ⟨by rw [HF.out]; rfl, rfl⟩
end Go.Proofs.YtcajdkncohcaeaaDoor
end
section
namespace Go.Proofs.YtcajdkncohcaeaaDoor
set_option linter.unusedVariables false
set_option linter.unusedSimpArgs false
open Go.RowKit
theorem cell_below {w w1 : World} (h : Below w.heap.size w w1) {a : Addr} {v : Value} (hc : w.cell? a = some v) : w1.cell? a = some v := (h.cell (World.block_lt_of_cell? w a hc)).trans hc
theorem Glob.below {w w' : World} (hG : Glob w) (h : Below w.heap.size w w') : Glob w' :=
  ⟨fun i hi => cell_below h (hG.kinds i hi), fun i hi => cell_below h (hG.digit i hi), fun i hi => cell_below h (hG.words i hi)⟩
theorem Glob.alloc {w : World} (hG : Glob w) (o : Obj) : Glob (w.alloc o) := hG.below ((Below.refl _ _).alloc (Nat.le_refl _) _)
theorem wordFrom_le : ∀ (l : List UInt8) (k : Nat), wordFrom k l ≤ k + l.length
  | [], k => Nat.le_refl _
  | c :: l, k => by
    unfold wordFrom; split
    · have := wordFrom_le l (k + 1); simp; omega
    · simp
end Go.Proofs.YtcajdkncohcaeaaDoor
end
section
namespace Go.Proofs.YtcajdkncohcaeaaDoor
set_option linter.unusedVariables false
set_option linter.unusedSimpArgs false
open Go.RowKit
theorem bl_alloc {w W : World} (h : Below w.heap.size w W) (o : Obj) : Below w.heap.size w (W.alloc o) := h.alloc h.size o
theorem bl_set {w W : World} (h : Below w.heap.size w W) {p : Addr} (hp : w.heap.size ≤ p.block) (u : Value) : Below w.heap.size w (W.setCell p u) := h.setCell hp u
theorem bl_drew {w W : World} (h : Below w.heap.size w W) : Below w.heap.size w W.drew := h.drew
theorem bl_then {w W W' : World} (h : Below w.heap.size w W) (k : Below W.heap.size W W') : Below w.heap.size w W' := h.trans (k.mono h.size)
end Go.Proofs.YtcajdkncohcaeaaDoor
end
section
namespace Go.Proofs.YtcajdkncohcaeaaDoor
set_option linter.unusedVariables false
set_option linter.unusedSimpArgs false
open Go.RowKit Go.Proofs.YtcajdkncohcaeaaDoorW.PrintWords
structure Tok where
  kind : Int
  text : ByteArray
  pos : Int
deriving DecidableEq
theorem eqTok (d : Nat) (w : World) (x0 y0 : Int) (x1 y1 : ByteArray) (x2 y2 : Int) :
    (Op.equalIn (d + 2) 36 (.agg #[.int .i64 x0, .string x1, .int .i64 x2]) (.agg #[.int .i64 y0, .string y1, .int .i64 y2])).run Tryd.prog w = .ok ((x0 == y0) && ((x1.toList == y1.toList) && (x2 == y2))) w := by
  refine eqA_of Tryd.underlying36 (by kernel_rfl) ?_
  refine eqf_cons (by rfl) (by go_simp; rfl) (by go_simp; rfl) (by go_simp) ?_
  refine eqf_cons (by rfl) (by go_simp; rfl) (by go_simp; rfl) (by go_simp) ?_
  exact eqf_last (by rfl) (by go_simp; rfl) (by go_simp; rfl) (by go_simp)
structure Flt where
  err : Int
  pos : Int
deriving DecidableEq
theorem eqFlt (d : Nat) (w : World) (x0 y0 : Int) (x1 y1 : Int) :
    (Op.equalIn (d + 2) 26 (.agg #[.int .i64 x0, .int .i64 x1]) (.agg #[.int .i64 y0, .int .i64 y1])).run Tryd.prog w = .ok ((x0 == y0) && (x1 == y1)) w := by
  refine eqA_of Tryd.underlying26 (by kernel_rfl) ?_
  refine eqf_cons (by rfl) (by go_simp; rfl) (by go_simp; rfl) (by go_simp) ?_
  exact eqf_last (by rfl) (by go_simp; rfl) (by go_simp; rfl) (by go_simp)
/-- a row's blocks lie below the heap's size -/
theorem R_lt {α : Type} {d : Kd α} {e : Nat} {w : World} {base : Nat} {ok : Nat → Prop} {v : Value} {xs : List α} (h : d.R e w base ok v xs) : d.R e w base (fun k => k < w.heap.size) v xs :=
  Kd.R_mono (Kd.R_bound h) (fun _ hk => hk.2.2.1)
end Go.Proofs.YtcajdkncohcaeaaDoor
end
section
namespace Go.Proofs.YtcajdkncohcaeaaDoor
set_option linter.unusedVariables false
set_option linter.unusedSimpArgs false
open Go.RowKit Go.Proofs.YtcajdkncohcaeaaDoorW.PrintWords
def pre (acc : List Tok) : Except Nat (List Tok) → Except Nat (List Tok)
  | .ok l => .ok (acc ++ l)
  | .error e => .error e
end Go.Proofs.YtcajdkncohcaeaaDoor
end
section
namespace Go.Proofs.YtcajdkncohcaeaaDoor
set_option linter.unusedVariables false
set_option linter.unusedSimpArgs false
open Go.RowKit Go.Proofs.YtcajdkncohcaeaaDoorW.PrintWords
attribute [local go_sem high] eqTok eqFlt
/-- the world of a variable that is made -/
theorem alloc_keep (w : World) (o : Obj) : Below w.heap.size w (w.alloc o) := bl_alloc (Below.refl _ _) o
end Go.Proofs.YtcajdkncohcaeaaDoor
end
section
namespace Go.Proofs.YtcajdkncohcaeaaDoor
set_option linter.unusedVariables false
set_option linter.unusedSimpArgs false
open Go.ChangeShapes Go.WideShapes Go.ChangeAt Go.RowKit
def litV : Lit → Value
  | .int k n => .int k n
  | .bool b => .bool b
  | .string l => .string ⟨l.toArray⟩
  | _ => undef
theorem cells_of_lits {H : Type} {enc : TypeId × Value → H} {P : Program} {w : World} {base : Nat} {sp : Nat → Bool} {held : Bool} {fuel : Nat} {t e : TypeId} {n : Nat} {cs : List Value} {ls : List Lit} {p : List MemPlace}
    (ht : P.underlying t = some (.array n e)) (hce : P.cellsOf e = 1) (hct : P.cellsOf t = n)
    (hel : ∀ fuel cs x, DataW.trod enc P w base sp held fuel e cs = some x → ∃ l, cs = [litV l] ∧ x = (.lit l, []))
    (h : DataW.trod enc P w base sp held fuel t cs = some (.agg (ls.map .lit), p)) : cs = ls.map litV := by
  cases fuel with
  | zero => simp [DataW.trod] at h
  | succ fuel =>
    simp only [DataW.trod, ht, hce, hct, Nat.mul_one] at h
    split at h
    · rename_i hl
      obtain ⟨xs, hm, hx⟩ := Option.map_eq_some_iff.1 h
      have hxs : xs.map (·.1) = ls.map fun z => (DataW.lit z : DataW H) := by
        have := congrArg Prod.fst hx
        simpa using this
      have hxl : xs.length = n := by simpa using Lib.mapM_length hm
      have hzl : ls.length = n := by
        have := congrArg List.length hxs
        simp at this
        omega
      apply List.ext_getElem?
      intro i
      by_cases hi : i < n
      · obtain ⟨b, hb, hf⟩ := Lib.mapM_at hm i i (by simp [hi])
        obtain ⟨z, hc, rfl⟩ := hel _ _ _ hf
        have h1 : cs[i]? = some (litV z) := by
          have := congrArg (·[0]?) hc
          simpa [List.getElem?_take, List.getElem?_drop] using this
        have h2 : (xs.map (·.1))[i]? = some (DataW.lit z : DataW H) := by simp [hb]
        rw [hxs] at h2
        simp only [List.getElem?_map, Option.map_eq_some_iff, DataW.lit.injEq] at h2
        obtain ⟨z', hz', rfl⟩ := h2
        simp [h1, hz']
      · rw [List.getElem?_eq_none (by omega), List.getElem?_eq_none (by simp; omega)]
    · cases h
theorem lit_int {H : Type} {enc : TypeId × Value → H} {P : Program} {w : World} {base : Nat} {sp : Nat → Bool} {held : Bool} {e : TypeId} {k : IntKind} (he : P.underlying e = some (.int k)) :
    ∀ fuel cs x, DataW.trod enc P w base sp held fuel e cs = some x → ∃ l, cs = [litV l] ∧ x = (.lit l, []) := fun _ _ _ h => by
  obtain ⟨n, h1, h2, _⟩ := DataW.trod_int he h
  exact ⟨.int k n, h1, h2⟩
theorem lit_bool {H : Type} {enc : TypeId × Value → H} {P : Program} {w : World} {base : Nat} {sp : Nat → Bool} {held : Bool} {e : TypeId} (he : P.underlying e = some .bool) :
    ∀ fuel cs x, DataW.trod enc P w base sp held fuel e cs = some x → ∃ l, cs = [litV l] ∧ x = (.lit l, []) := fun _ _ _ h => by
  obtain ⟨n, h1, h2⟩ := DataW.trod_bool he h
  exact ⟨.bool n, h1, h2⟩
theorem lit_string {H : Type} {enc : TypeId × Value → H} {P : Program} {w : World} {base : Nat} {sp : Nat → Bool} {held : Bool} {e : TypeId} (he : P.underlying e = some .string) :
    ∀ fuel cs x, DataW.trod enc P w base sp held fuel e cs = some x → ∃ l, cs = [litV l] ∧ x = (.lit l, []) := fun _ _ _ h => by
  obtain ⟨s, h1, h2, _⟩ := DataW.trod_string he h
  exact ⟨.string s.data.toList, by rw [h1]; rfl, h2⟩
def kindsL : List Lit := (List.range 128).map fun i => .int .i64 (kindOf i)
def digitL : List Lit := (List.range 256).map fun i => .bool (isDigit i)
def wordsL : List Lit := wordsZ.map fun s => .string s.data.toList
theorem kinds_laid : (Rows.laid_steelyard_lex_kinds : DataW Unit) = .agg (kindsL.map .lit) := by kernel_rfl
theorem digit_laid : (Rows.laid_steelyard_literal_digit : DataW Unit) = .agg (digitL.map .lit) := by kernel_rfl
theorem words_laid : (Rows.laid_steelyard_lex_words : DataW Unit) = .agg (wordsL.map .lit) := by kernel_rfl
theorem gKinds : Tryd.prog.globalNamed "steelyard/lex.kinds" = some 2 := by kernel_rfl
theorem gDigit : Tryd.prog.globalNamed "steelyard/literal.digit" = some 3 := by kernel_rfl
theorem gWords : Tryd.prog.globalNamed "steelyard/lex.words" = some 0 := by kernel_rfl
theorem tKinds : (Tryd.prog.globals[2]?).map (·.type) = some 126 := by kernel_rfl
theorem tDigit : (Tryd.prog.globals[3]?).map (·.type) = some 127 := by kernel_rfl
theorem tWords : (Tryd.prog.globals[0]?).map (·.type) = some 85 := by kernel_rfl
def lexLaid : List (String × DataW Unit) := [("steelyard/literal.digit", Rows.laid_steelyard_literal_digit), ("steelyard/lex.kinds", Rows.laid_steelyard_lex_kinds), ("steelyard/lex.words", Rows.laid_steelyard_lex_words)]
/-- what the row's condition gives the walks -/
theorem glob_of_laid {W : World} (h : laidMetH Tryd.prog lexLaid W) : Glob W := by
  rw [MakeChecks.laidMetH_plain _ _ _ (by kernel_rfl)] at h
  obtain ⟨ps, ⟨g0, t0, cs0, f0, p0, q0, hg0, ht0, hv0, hd0, ⟨g1, t1, cs1, f1, p1, q1, hg1, ht1, hv1, hd1, ⟨g2, t2, cs2, f2, p2, q2, hg2, ht2, hv2, hd2, _, _⟩, _⟩, _⟩, _, _⟩ := h
  obtain rfl := Option.some.inj (gDigit.symm.trans hg0)
  obtain rfl := Option.some.inj (gKinds.symm.trans hg1)
  obtain rfl := Option.some.inj (gWords.symm.trans hg2)
  obtain rfl := Option.some.inj (tDigit.symm.trans ht0)
  obtain rfl := Option.some.inj (tKinds.symm.trans ht1)
  obtain rfl := Option.some.inj (tWords.symm.trans ht2)
  rw [digit_laid] at hd0
  rw [kinds_laid] at hd1
  rw [words_laid] at hd2
  have c0 := cells_of_lits Tryd.underlying127 (by kernel_rfl) (by kernel_rfl) (lit_bool Tryd.underlying4) hd0
  have c1 := cells_of_lits Tryd.underlying126 (by kernel_rfl) (by kernel_rfl) (lit_int Tryd.underlying3) hd1
  have c2 := cells_of_lits Tryd.underlying85 (by kernel_rfl) (by kernel_rfl) (lit_string Tryd.underlying9) hd2
  refine ⟨fun i hi => ?_, fun i hi => ?_, fun i hi => ?_⟩
  · rw [World.var?_cell hg1 hv1 i, ← Array.getElem?_toList, c1]
    simp [kindsL, hi, litV]
  · rw [World.var?_cell hg0 hv0 i, ← Array.getElem?_toList, c0]
    simp [digitL, hi, litV]
  · rw [World.var?_cell hg2 hv2 i, ← Array.getElem?_toList, c2]
    simp only [wordsL, List.getElem?_map, List.getD, List.getElem?_eq_getElem hi]
    rfl
end Go.Proofs.YtcajdkncohcaeaaDoor
end
section
namespace Go.Proofs.YtcajdkncohcaeaaDoor
set_option linter.unusedVariables false
set_option linter.unusedSimpArgs false
open Go.ChangeShapes Go.WideShapes Go.ChangeAt Go.RowKit
theorem own : ownKnob Tryd.prog.godebug = none := by kernel_rfl
theorem door_met (os : Os) (args : Array Value) : laidMetH Tryd.prog lexLaid ((World.doorLaid Tryd.prog 400 os).forCall (fun _ _ => 0) ⟨#[], args, []⟩).memory :=
  laidMetH_of_parts3 (fuel := 8) (laidMet_of_run' 8 (by kernel_rfl) (by kernel_rfl)) (by kernel_rfl) (by kernel_rfl)
theorem door_shaped (os : Os) : ((World.doorLaid Tryd.prog 400 os).forCall (fun _ _ => 0) ⟨#[], #[], []⟩).Shaped Tryd.prog := World.shaped_of_RefB (by kernel_rfl) (by kernel_rfl)
end Go.Proofs.YtcajdkncohcaeaaDoor
end
section
namespace Go.Proofs.YtcajdkncohcaeaaDoor
set_option linter.unusedVariables false
set_option linter.unusedSimpArgs false
open Go.RowKit Go.Proofs.YtcajdkncohcaeaaDoorW.PrintWords
theorem isLetter_val (c : Nat) : isLetter c = decide ((97 ≤ c ∧ c ≤ 122) ∨ (65 ≤ c ∧ c ≤ 90) ∨ c = 95) := by
  rw [Bool.eq_iff_iff]; simp only [isLetter, Bool.or_eq_true, Bool.and_eq_true, decide_eq_true_eq, beq_iff_eq]; omega
theorem isDigit_val (c : Nat) : isDigit c = decide (48 ≤ c ∧ c ≤ 57) := by
  rw [Bool.eq_iff_iff]; simp only [isDigit, Bool.and_eq_true, decide_eq_true_eq]
set_option maxRecDepth 20000 in
set_option maxHeartbeats 1000000 in
theorem rletter_any (c : Nat) (w : World) (h1 : c ≤ 255) :
    Calls Tryd.prog 53 #[.int .u8 c] w fun e w' => e = .returned (.bool (isLetter c)) ∧ w = w' := by
  rcases (by omega : c < 65 ∨ (65 ≤ c ∧ c ≤ 90) ∨ (90 < c ∧ c < 97 ∧ c ≠ 95) ∨ (90 < c ∧ c < 97 ∧ c = 95) ∨ (97 ≤ c ∧ c ≤ 122) ∨ 122 < c) with g | ⟨g, g'⟩ | ⟨g, g', g0⟩ | ⟨g, g', g0⟩ | ⟨g, g'⟩ | g
  all_goals
    first
    | (have HV : Hid (isLetter c = true) := Lib.hid (by rw [isLetter_val]; exact decide_eq_true (by omega)))
    | (have HV : Hid (isLetter c = false) := Lib.hid (by rw [isLetter_val]; exact decide_eq_false (by omega)))
    first
    | (have e95 : ((c : Int) == 95) = false := by simp; omega)
    | (have e95 : ((c : Int) == 95) = true := by simp; omega)
    first | clear g0 | skip
    first | (have d122 : decide ((c : Int) ≤ 122) = true := by simp; omega) | (have d122 : decide ((c : Int) ≤ 122) = false := by simp; omega)
    first | (have d90 : decide ((c : Int) ≤ 90) = true := by simp; omega) | (have d90 : decide ((c : Int) ≤ 90) = false := by simp; omega)
    go_enter Tryd.func53, Tryd.ntmps53
    go_wp2_with fail
    go_ret
    exact ⟨by rw [HV.out]; rfl, rfl⟩
set_option maxRecDepth 20000 in
set_option maxHeartbeats 1000000 in
theorem rdigit_any (c : Nat) (w : World) (h1 : c ≤ 255) :
    Calls Tryd.prog 54 #[.int .u8 c] w fun e w' => e = .returned (.bool (isDigit c)) ∧ w = w' := by
  rcases (by omega : c < 48 ∨ (48 ≤ c ∧ c ≤ 57) ∨ 57 < c) with g | ⟨g, g'⟩ | g
  all_goals
    first
    | (have HV : Hid (isDigit c = true) := Lib.hid (by rw [isDigit_val]; exact decide_eq_true (by omega)))
    | (have HV : Hid (isDigit c = false) := Lib.hid (by rw [isDigit_val]; exact decide_eq_false (by omega)))
    first | (have d57 : decide ((c : Int) ≤ 57) = true := by simp; omega) | (have d57 : decide ((c : Int) ≤ 57) = false := by simp; omega)
    go_enter Tryd.func54, Tryd.ntmps54
    go_wp2_with fail
    go_ret
    exact ⟨by rw [HV.out]; rfl, rfl⟩
set_option maxRecDepth 20000 in
set_option maxHeartbeats 1000000 in
theorem rrun_any (s : ByteArray) (at_ : Nat) (w : World) (hs : s.size ≤ 140737488351232) (ha : at_ ≤ s.size) :
    Calls Tryd.prog 76 #[.string s, .int .i64 at_] w fun e w' => e = .returned (.int .i64 (runL (s.data.toList.drop at_))) ∧ w = w' := by
  go_enter Tryd.func76, Tryd.ntmps76
  go_wp2_with fail
  go_loop [5] (fun n => ∃ k : Nat, at_ + k ≤ s.size ∧ n = .int .i64 k ∧ Hid (k + runL (s.data.toList.drop (at_ + k)) = runL (s.data.toList.drop at_))) (fun n => s.size - (intOf n).toNat)
  case atStart => exact ⟨0, by omega, rfl, Lib.hid (by simp)⟩
  case round =>
    obtain ⟨k, hk, rfl, HW⟩ := hrel
    obtain ⟨i, hi⟩ : ∃ i, at_ + k = i := ⟨_, rfl⟩
    rw [hi] at hk HW
    by_cases hlt : i < s.size
    · have hd := drop_cons s i hlt
      have hb : s[i].toNat ≤ 255 := Nat.le_of_lt_succ s[i].toNat_lt
      cases h1 : isDigit s[i].toNat with
      | true =>
        have HS : Hid (k + 1 + runL (s.data.toList.drop (at_ + (k + 1))) = runL (s.data.toList.drop at_)) := Lib.hid (by rw [← HW.out, hd, runL, h1, ← Nat.add_assoc, hi]; simp; omega)
        rw [isDigit_val] at h1
        obtain ⟨g, g'⟩ := of_decide_eq_true h1
        clear hd h1 HW
        have hi' := Lib.hid hi
        have hii : ((at_ : Int) + (k : Int)) = (i : Int) := by omega
        clear hi
        go_wp2_with fail
        go_round
        case rel => exact ⟨k + 1, by have := hi'.out; omega, by go_num, HS⟩
        case measure => simp [intOf]; have := hi'.out; omega
      | false =>
        have HF : Hid (runL (s.data.toList.drop at_) = k) := Lib.hid (by rw [← HW.out, hd, runL, h1]; simp)
        rw [isDigit_val] at h1
        have h2 := of_decide_eq_false h1
        have hii : ((at_ : Int) + (k : Int)) = (i : Int) := by omega
        clear hd h1 HW hi
        rcases (by omega : s[i].toNat < 48 ∨ (48 ≤ s[i].toNat ∧ 57 < s[i].toNat)) with g | ⟨g, g'⟩
        all_goals
          clear h2
          go_wp2_with fail
          go_ret
          exact ⟨by rw [HF.out]; rfl, rfl⟩
    · have HF : Hid (runL (s.data.toList.drop at_) = k) := Lib.hid (by rw [← HW.out, List.drop_of_length_le (by rw [← Lib.size_eq]; omega), runL]; rfl)
      have hii : ((at_ : Int) + (k : Int)) = (i : Int) := by omega
      clear HW hi
      go_wp2_with fail
      go_ret
      exact ⟨by rw [HF.out]; rfl, rfl⟩
end Go.Proofs.YtcajdkncohcaeaaDoor
end
section
namespace Go.Proofs.YtcajdkncohcaeaaDoor
set_option linter.unusedVariables false
set_option linter.unusedSimpArgs false
open Go.RowKit Go.Proofs.YtcajdkncohcaeaaDoorW.PrintWords
theorem hasPrefix_drop (s : ByteArray) (m : Nat) (c : UInt8) : Lib.hasPrefix (s.data.toList.drop m) [c] = if h : m < s.size then s[m] == c else false := by
  split
  · rename_i h
    rw [drop_cons s m h]; simp [Lib.hasPrefix]
    rw [Bool.eq_iff_iff]; simp; exact eq_comm
  · rename_i h
    rw [List.drop_of_length_le (by rw [← Lib.size_eq]; omega)]; rfl
theorem expL_cases (s : ByteArray) (m : Nat) :
    (s.size ≤ m ∧ expL (s.data.toList.drop m) = 0) ∨ (∃ h : m < s.size, s[m] ≠ 101 ∧ expL (s.data.toList.drop m) = 0) ∨
    (∃ h : m < s.size, s[m] = 101 ∧ s.size ≤ m + 1 ∧ runL (s.data.toList.drop (m + 1)) = 0 ∧ expL (s.data.toList.drop m) = 0) ∨
    (∃ (h : m < s.size) (h' : m + 1 < s.size) (k : Nat), s[m] = 101 ∧ s[m + 1] ≠ 45 ∧ runL (s.data.toList.drop (m + 1)) = k ∧ expL (s.data.toList.drop m) = if k = 0 then 0 else min k 3 + 1) ∨
    (∃ (h : m < s.size) (h' : m + 1 < s.size) (k : Nat), s[m] = 101 ∧ s[m + 1] = 45 ∧ runL (s.data.toList.drop (m + 2)) = k ∧ expL (s.data.toList.drop m) = if k = 0 then 0 else min k 3 + 2) := by
  by_cases h : m < s.size
  · right
    have hp := hasPrefix_drop s m 101
    rw [dif_pos h] at hp
    by_cases he : s[m] = 101
    · right
      have hp1 : Lib.hasPrefix (s.data.toList.drop m) [101] = true := by rw [hp, he]; rfl
      by_cases h' : m + 1 < s.size
      · right
        have hq := hasPrefix_drop s (m + 1) 45
        rw [dif_pos h'] at hq
        by_cases hm : s[m + 1] = 45
        · right
          refine ⟨h, h', _, he, hm, rfl, ?_⟩
          rw [expL, if_pos hp1]
          simp only [List.drop_drop]
          rw [if_pos (by rw [hq, hm]; rfl)]
        · left
          refine ⟨h, h', _, he, hm, rfl, ?_⟩
          rw [expL, if_pos hp1]
          simp only [List.drop_drop]
          rw [if_neg (by rw [hq]; simpa using hm)]
      · left
        have hnil : s.data.toList.drop (m + 1) = [] := List.drop_of_length_le (by rw [← Lib.size_eq]; omega)
        refine ⟨h, he, by omega, by rw [hnil]; rfl, ?_⟩
        rw [expL, if_pos hp1]
        simp only [List.drop_drop, hnil]; rfl
    · left
      refine ⟨h, he, ?_⟩
      rw [expL, if_neg (by rw [hp]; simpa using he)]
  · left
    refine ⟨by omega, ?_⟩
    rw [List.drop_of_length_le (by rw [← Lib.size_eq]; omega)]; rfl
theorem u8_ne (c d : UInt8) (n : Nat) (hd : d.toNat = n) (h : c ≠ d) : ((c.toNat : Int) == (n : Int)) = false := by
  simp; intro he; exact h (UInt8.toNat_inj.1 (by omega))
theorem u8_eq (c d : UInt8) (n : Nat) (hd : d.toNat = n) (h : c = d) : ((c.toNat : Int) == (n : Int)) = true := by
  subst h; simp; omega
/-- run from a place that the walk spells in its own way -/
theorem rrun_at (s : ByteArray) (k : Nat) (hs : s.size ≤ 140737488351232) (hk : k ≤ s.size) (r : Nat) (hr : runL (s.data.toList.drop k) = r) (a : Int) (ha : a = k) (w : World) :
    Calls Tryd.prog 76 #[.string s, .int .i64 a] w fun e w' => e = .returned (.int .i64 r) ∧ w = w' := by
  subst ha; rw [← hr]; exact rrun_any s k w hs hk
set_option maxRecDepth 20000 in
set_option maxHeartbeats 8000000 in
theorem rlength_any (s : ByteArray) (w : World) (hs : s.size ≤ 140737488351232) :
    Calls Tryd.prog 55 #[.string s] w fun e w' => e = .returned (.int .i64 (lenL s.data.toList)) ∧ w = w' := by
  have hsz := Lib.size_eq s
  obtain ⟨n, hn⟩ : ∃ n, runL s.data.toList = n := ⟨_, rfl⟩
  have hn1 : n ≤ s.size := by rw [← hn, hsz]; exact runL_le _
  have R0 := Lib.hid (rrun_at s 0 hs (Nat.zero_le _) n (by rw [List.drop_zero, hn]) 0 rfl)
  by_cases hn0 : n = 0
  · have HF : Hid (lenL s.data.toList = 0) := Lib.hid (by rw [lenL, hn, if_pos hn0])
    subst hn0
    clear hsz hn
    go_enter Tryd.func55, Tryd.ntmps55
    go_wp2_with (go_at_call 76; (with_reducible refine (R0.out _).mono ?_); rintro e w' ⟨rfl, rfl⟩)
    go_ret
    exact ⟨by rw [HF.out]; rfl, rfl⟩
  · have e0 : ((n : Int) == 0) = false := by simp; omega
    have HL : Hid (lenL s.data.toList = fracL s.data.toList n + expL (s.data.toList.drop (fracL s.data.toList n))) := Lib.hid (by rw [lenL, hn, if_neg hn0])
    have hp := hasPrefix_drop s n 46
    have hA : (s.size ≤ n ∧ fracL s.data.toList n = n) ∨ (∃ h : n < s.size, s[n] ≠ 46 ∧ fracL s.data.toList n = n) ∨
        (∃ (h : n < s.size) (k : Nat), s[n] = 46 ∧ runL (s.data.toList.drop (n + 1)) = k ∧ n + 1 + k ≤ s.size ∧ ((k = 0 ∧ fracL s.data.toList n = n) ∨ (0 < k ∧ fracL s.data.toList n = n + (1 + k)))) := by
      by_cases h : n < s.size
      · right
        rw [dif_pos h] at hp
        by_cases hd : s[n] = 46
        · right
          have hr := runL_le (s.data.toList.drop (n + 1))
          rw [List.length_drop, ← hsz] at hr
          refine ⟨h, _, hd, rfl, by omega, ?_⟩
          have hb : (s[n] == (46 : UInt8)) = true := by rw [hd]; rfl
          rw [fracL, hp, hb]
          rcases Nat.eq_zero_or_pos (runL (s.data.toList.drop (n + 1))) with hz | hz
          · left; exact ⟨hz, by rw [hz]; simp⟩
          · right; exact ⟨hz, by simp [hz]⟩
        · left
          have hb : (s[n] == (46 : UInt8)) = false := by simpa using hd
          exact ⟨h, hd, by rw [fracL, hp, hb]; rfl⟩
      · left
        rw [dif_neg h] at hp
        exact ⟨by omega, by rw [fracL, hp]; rfl⟩
    clear hp hn hsz
    rcases hA with ⟨a1, a2⟩ | ⟨a0, a1, a2⟩ | ⟨a0, k, a1, a3, a4, ⟨a5, a6⟩ | ⟨a5, a6⟩⟩
    · have HM : Hid (lenL s.data.toList = n + expL (s.data.toList.drop n)) := Lib.hid (by rw [HL.out, a2])
      obtain ⟨m, hm⟩ : ∃ m, m = n := ⟨_, rfl⟩
      subst hm
      have HF : Hid (lenL s.data.toList = m) := Lib.hid (by rw [HM.out, List.drop_of_length_le (by rw [← Lib.size_eq]; omega)]; rfl)
      clear a2 HL
      go_enter Tryd.func55, Tryd.ntmps55
      go_wp2_with (first | (go_at_call 76; (with_reducible refine (R0.out _).mono ?_); rintro e w' ⟨rfl, rfl⟩))
      go_ret
      exact ⟨by rw [HF.out]; first | rfl | (congr 2; push_cast; omega) | (simp; omega), rfl⟩
    · have HM : Hid (lenL s.data.toList = n + expL (s.data.toList.drop n)) := Lib.hid (by rw [HL.out, a2])
      have y1 : ((s[n].toNat : Int) == 46) = false := u8_ne _ 46 46 rfl a1
      obtain ⟨m, hm⟩ : ∃ m, m = n := ⟨_, rfl⟩
      subst hm
      have hE := expL_cases s m
      clear a1 a2 HL
      rcases hE with ⟨g1, g2⟩ | ⟨h, g1, g2⟩ | ⟨h, g1, g2, g3, g4⟩ | ⟨h, h', k2, g1, g2, g3, g4⟩ | ⟨h, h', k2, g1, g2, g3, g4⟩
      · have HF : Hid (lenL s.data.toList = m) := Lib.hid (by rw [HM.out, g2]; rfl)
        clear g2
        go_enter Tryd.func55, Tryd.ntmps55
        go_wp2_with (first | (go_at_call 76; (with_reducible refine (R0.out _).mono ?_); rintro e w' ⟨rfl, rfl⟩))
        all_goals (go_ret; exact ⟨by rw [HF.out]; first | rfl | (congr 2; push_cast; omega) | (simp; omega), rfl⟩)
      · have HF : Hid (lenL s.data.toList = m) := Lib.hid (by rw [HM.out, g2]; rfl)
        have x1 : ((s[m].toNat : Int) == 101) = false := u8_ne _ 101 101 rfl g1
        clear g1 g2
        go_enter Tryd.func55, Tryd.ntmps55
        go_wp2_with (first | (go_at_call 76; (with_reducible refine (R0.out _).mono ?_); rintro e w' ⟨rfl, rfl⟩))
        all_goals (go_ret; exact ⟨by rw [HF.out]; first | rfl | (congr 2; push_cast; omega) | (simp; omega), rfl⟩)
      · have HF : Hid (lenL s.data.toList = m) := Lib.hid (by rw [HM.out, g4]; rfl)
        have x1 : ((s[m].toNat : Int) == 101) = true := u8_eq _ 101 101 rfl g1
        have R2 := Lib.hid (rrun_at s (m + 1) hs h 0 g3 ((m : Int) + 1) (by omega))
        clear g1 g3 g4
        go_enter Tryd.func55, Tryd.ntmps55
        go_wp2_with (first | (go_at_call 76; (with_reducible refine (R0.out _).mono ?_); rintro e w' ⟨rfl, rfl⟩) | (go_at_call 76; (with_reducible refine (R2.out _).mono ?_); rintro e w' ⟨rfl, rfl⟩))
        all_goals (go_ret; exact ⟨by rw [HF.out]; first | rfl | (congr 2; push_cast; omega) | (simp; omega), rfl⟩)
      · have hk2 : m + 1 + k2 ≤ s.size := by have := runL_le (s.data.toList.drop (m + 1)); rw [g3, List.length_drop, ← Lib.size_eq] at this; omega
        have x1 : ((s[m].toNat : Int) == 101) = true := u8_eq _ 101 101 rfl g1
        have x2 : ((s[m + 1].toNat : Int) == 45) = false := u8_ne _ 45 45 rfl g2
        have R2 := Lib.hid (rrun_at s (m + 1) hs h k2 g3 ((m : Int) + 1) (by omega))
        have HF : Hid (lenL s.data.toList = m + if k2 = 0 then 0 else min k2 3 + 1) := Lib.hid (by rw [HM.out, g4])
        clear g1 g2 g3 g4
        rcases (by omega : k2 = 0 ∨ (0 < k2 ∧ k2 < 3) ∨ 3 ≤ k2) with z | ⟨z, z'⟩ | z
        · subst z
          go_enter Tryd.func55, Tryd.ntmps55
          go_wp2_with (first | (go_at_call 76; (with_reducible refine (R0.out _).mono ?_); rintro e w' ⟨rfl, rfl⟩) | (go_at_call 76; (with_reducible refine (R2.out _).mono ?_); rintro e w' ⟨rfl, rfl⟩))
          all_goals (go_ret; exact ⟨by rw [HF.out]; first | rfl | (congr 2; push_cast; omega) | (simp; omega), rfl⟩)
        · have HF2 := Lib.hid (HF.out.trans (by rw [if_neg (by omega), Nat.min_eq_left (by omega)] : _ = m + (k2 + 1)))
          have e1 : min (k2 : Int) 3 = k2 := by omega
          clear HF
          have HF := HF2
          go_enter Tryd.func55, Tryd.ntmps55
          go_wp2_with (first | (go_at_call 76; (with_reducible refine (R0.out _).mono ?_); rintro e w' ⟨rfl, rfl⟩) | (go_at_call 76; (with_reducible refine (R2.out _).mono ?_); rintro e w' ⟨rfl, rfl⟩))
          all_goals (go_ret; exact ⟨by rw [HF.out]; first | rfl | (congr 2; push_cast; omega) | (simp; omega), rfl⟩)
        · have HF2 := Lib.hid (HF.out.trans (by rw [if_neg (by omega), Nat.min_eq_right (by omega)] : _ = m + (3 + 1)))
          have e1 : min (k2 : Int) 3 = 3 := by omega
          clear HF
          have HF := HF2
          go_enter Tryd.func55, Tryd.ntmps55
          go_wp2_with (first | (go_at_call 76; (with_reducible refine (R0.out _).mono ?_); rintro e w' ⟨rfl, rfl⟩) | (go_at_call 76; (with_reducible refine (R2.out _).mono ?_); rintro e w' ⟨rfl, rfl⟩))
          all_goals (go_ret; exact ⟨by rw [HF.out]; first | rfl | (congr 2; push_cast; omega) | (simp; omega), rfl⟩)
      · have hk2 : m + 2 + k2 ≤ s.size := by have := runL_le (s.data.toList.drop (m + 2)); rw [g3, List.length_drop, ← Lib.size_eq] at this; omega
        have x1 : ((s[m].toNat : Int) == 101) = true := u8_eq _ 101 101 rfl g1
        have x2 : ((s[m + 1].toNat : Int) == 45) = true := u8_eq _ 45 45 rfl g2
        have R2 := Lib.hid (rrun_at s (m + 2) hs h' k2 g3 ((m : Int) + 1 + 1) (by omega))
        have HF : Hid (lenL s.data.toList = m + if k2 = 0 then 0 else min k2 3 + 2) := Lib.hid (by rw [HM.out, g4])
        clear g1 g2 g3 g4
        rcases (by omega : k2 = 0 ∨ (0 < k2 ∧ k2 < 3) ∨ 3 ≤ k2) with z | ⟨z, z'⟩ | z
        · subst z
          go_enter Tryd.func55, Tryd.ntmps55
          go_wp2_with (first | (go_at_call 76; (with_reducible refine (R0.out _).mono ?_); rintro e w' ⟨rfl, rfl⟩) | (go_at_call 76; (with_reducible refine (R2.out _).mono ?_); rintro e w' ⟨rfl, rfl⟩))
          all_goals (go_ret; exact ⟨by rw [HF.out]; first | rfl | (congr 2; push_cast; omega) | (simp; omega), rfl⟩)
        · have HF2 := Lib.hid (HF.out.trans (by rw [if_neg (by omega), Nat.min_eq_left (by omega)] : _ = m + (k2 + 2)))
          have e1 : min (k2 : Int) 3 = k2 := by omega
          clear HF
          have HF := HF2
          go_enter Tryd.func55, Tryd.ntmps55
          go_wp2_with (first | (go_at_call 76; (with_reducible refine (R0.out _).mono ?_); rintro e w' ⟨rfl, rfl⟩) | (go_at_call 76; (with_reducible refine (R2.out _).mono ?_); rintro e w' ⟨rfl, rfl⟩))
          all_goals (go_ret; exact ⟨by rw [HF.out]; first | rfl | (congr 2; push_cast; omega) | (simp; omega), rfl⟩)
        · have HF2 := Lib.hid (HF.out.trans (by rw [if_neg (by omega), Nat.min_eq_right (by omega)] : _ = m + (3 + 2)))
          have e1 : min (k2 : Int) 3 = 3 := by omega
          clear HF
          have HF := HF2
          go_enter Tryd.func55, Tryd.ntmps55
          go_wp2_with (first | (go_at_call 76; (with_reducible refine (R0.out _).mono ?_); rintro e w' ⟨rfl, rfl⟩) | (go_at_call 76; (with_reducible refine (R2.out _).mono ?_); rintro e w' ⟨rfl, rfl⟩))
          all_goals (go_ret; exact ⟨by rw [HF.out]; first | rfl | (congr 2; push_cast; omega) | (simp; omega), rfl⟩)
    · have HM : Hid (lenL s.data.toList = n + expL (s.data.toList.drop n)) := Lib.hid (by rw [HL.out, a6])
      have y1 : ((s[n].toNat : Int) == 46) = true := u8_eq _ 46 46 rfl a1
      subst a5
      have R1 := Lib.hid (rrun_at s (n + 1) hs a0 0 a3 ((n : Int) + 1) (by omega))
      obtain ⟨m, hm⟩ : ∃ m, m = n := ⟨_, rfl⟩
      subst hm
      have HF : Hid (lenL s.data.toList = m) := Lib.hid (by
        have hp := hasPrefix_drop s m 101
        rw [dif_pos a0, a1] at hp
        rw [HM.out, expL, if_neg (by rw [hp]; decide)]; rfl)
      have x1 : ((s[m].toNat : Int) == 101) = false := u8_ne _ 101 101 rfl (by rw [a1]; decide)
      clear a1 a3 a6 HL
      go_enter Tryd.func55, Tryd.ntmps55
      go_wp2_with (first | (go_at_call 76; (with_reducible refine (R0.out _).mono ?_); rintro e w' ⟨rfl, rfl⟩) | (go_at_call 76; (with_reducible refine (R1.out _).mono ?_); rintro e w' ⟨rfl, rfl⟩))
      go_ret
      exact ⟨by rw [HF.out]; first | rfl | (congr 2; push_cast; omega) | (simp; omega), rfl⟩
    · obtain ⟨m, hm⟩ : ∃ m, n + (1 + k) = m := ⟨_, rfl⟩
      rw [hm] at a6
      have HM : Hid (lenL s.data.toList = m + expL (s.data.toList.drop m)) := Lib.hid (by rw [HL.out, a6])
      have y1 : ((s[n].toNat : Int) == 46) = true := u8_eq _ 46 46 rfl a1
      have y2 : decide ((0 : Int) < (k : Int)) = true := by simp; omega
      have hmi : (n : Int) + (1 + (k : Int)) = (m : Int) := by omega
      have hms : m ≤ s.size := by omega
      have R1 := Lib.hid (rrun_at s (n + 1) hs a0 k a3 ((n : Int) + 1) (by omega))
      have hE := expL_cases s m
      clear a1 a3 a6 HL hm
      rcases hE with ⟨g1, g2⟩ | ⟨h, g1, g2⟩ | ⟨h, g1, g2, g3, g4⟩ | ⟨h, h', k2, g1, g2, g3, g4⟩ | ⟨h, h', k2, g1, g2, g3, g4⟩
      · have HF : Hid (lenL s.data.toList = m) := Lib.hid (by rw [HM.out, g2]; rfl)
        clear g2
        go_enter Tryd.func55, Tryd.ntmps55
        go_wp2_with (first | (go_at_call 76; (with_reducible refine (R0.out _).mono ?_); rintro e w' ⟨rfl, rfl⟩) | (go_at_call 76; (with_reducible refine (R1.out _).mono ?_); rintro e w' ⟨rfl, rfl⟩))
        all_goals (go_ret; exact ⟨by rw [HF.out]; first | rfl | (congr 2; push_cast; omega) | (simp; omega), rfl⟩)
      · have HF : Hid (lenL s.data.toList = m) := Lib.hid (by rw [HM.out, g2]; rfl)
        have x1 : ((s[m].toNat : Int) == 101) = false := u8_ne _ 101 101 rfl g1
        clear g1 g2
        go_enter Tryd.func55, Tryd.ntmps55
        go_wp2_with (first | (go_at_call 76; (with_reducible refine (R0.out _).mono ?_); rintro e w' ⟨rfl, rfl⟩) | (go_at_call 76; (with_reducible refine (R1.out _).mono ?_); rintro e w' ⟨rfl, rfl⟩))
        all_goals (go_ret; exact ⟨by rw [HF.out]; first | rfl | (congr 2; push_cast; omega) | (simp; omega), rfl⟩)
      · have HF : Hid (lenL s.data.toList = m) := Lib.hid (by rw [HM.out, g4]; rfl)
        have x1 : ((s[m].toNat : Int) == 101) = true := u8_eq _ 101 101 rfl g1
        have R2 := Lib.hid (rrun_at s (m + 1) hs h 0 g3 ((m : Int) + 1) (by omega))
        clear g1 g3 g4
        go_enter Tryd.func55, Tryd.ntmps55
        go_wp2_with (first | (go_at_call 76; (with_reducible refine (R0.out _).mono ?_); rintro e w' ⟨rfl, rfl⟩) | (go_at_call 76; (with_reducible refine (R1.out _).mono ?_); rintro e w' ⟨rfl, rfl⟩) | (go_at_call 76; (with_reducible refine (R2.out _).mono ?_); rintro e w' ⟨rfl, rfl⟩))
        all_goals (go_ret; exact ⟨by rw [HF.out]; first | rfl | (congr 2; push_cast; omega) | (simp; omega), rfl⟩)
      · have hk2 : m + 1 + k2 ≤ s.size := by have := runL_le (s.data.toList.drop (m + 1)); rw [g3, List.length_drop, ← Lib.size_eq] at this; omega
        have x1 : ((s[m].toNat : Int) == 101) = true := u8_eq _ 101 101 rfl g1
        have x2 : ((s[m + 1].toNat : Int) == 45) = false := u8_ne _ 45 45 rfl g2
        have R2 := Lib.hid (rrun_at s (m + 1) hs h k2 g3 ((m : Int) + 1) (by omega))
        have HF : Hid (lenL s.data.toList = m + if k2 = 0 then 0 else min k2 3 + 1) := Lib.hid (by rw [HM.out, g4])
        clear g1 g2 g3 g4
        rcases (by omega : k2 = 0 ∨ (0 < k2 ∧ k2 < 3) ∨ 3 ≤ k2) with z | ⟨z, z'⟩ | z
        · subst z
          go_enter Tryd.func55, Tryd.ntmps55
          go_wp2_with (first | (go_at_call 76; (with_reducible refine (R0.out _).mono ?_); rintro e w' ⟨rfl, rfl⟩) | (go_at_call 76; (with_reducible refine (R1.out _).mono ?_); rintro e w' ⟨rfl, rfl⟩) | (go_at_call 76; (with_reducible refine (R2.out _).mono ?_); rintro e w' ⟨rfl, rfl⟩))
          all_goals (go_ret; exact ⟨by rw [HF.out]; first | rfl | (congr 2; push_cast; omega) | (simp; omega), rfl⟩)
        · have HF2 := Lib.hid (HF.out.trans (by rw [if_neg (by omega), Nat.min_eq_left (by omega)] : _ = m + (k2 + 1)))
          have e1 : min (k2 : Int) 3 = k2 := by omega
          clear HF
          have HF := HF2
          go_enter Tryd.func55, Tryd.ntmps55
          go_wp2_with (first | (go_at_call 76; (with_reducible refine (R0.out _).mono ?_); rintro e w' ⟨rfl, rfl⟩) | (go_at_call 76; (with_reducible refine (R1.out _).mono ?_); rintro e w' ⟨rfl, rfl⟩) | (go_at_call 76; (with_reducible refine (R2.out _).mono ?_); rintro e w' ⟨rfl, rfl⟩))
          all_goals (go_ret; exact ⟨by rw [HF.out]; first | rfl | (congr 2; push_cast; omega) | (simp; omega), rfl⟩)
        · have HF2 := Lib.hid (HF.out.trans (by rw [if_neg (by omega), Nat.min_eq_right (by omega)] : _ = m + (3 + 1)))
          have e1 : min (k2 : Int) 3 = 3 := by omega
          clear HF
          have HF := HF2
          go_enter Tryd.func55, Tryd.ntmps55
          go_wp2_with (first | (go_at_call 76; (with_reducible refine (R0.out _).mono ?_); rintro e w' ⟨rfl, rfl⟩) | (go_at_call 76; (with_reducible refine (R1.out _).mono ?_); rintro e w' ⟨rfl, rfl⟩) | (go_at_call 76; (with_reducible refine (R2.out _).mono ?_); rintro e w' ⟨rfl, rfl⟩))
          all_goals (go_ret; exact ⟨by rw [HF.out]; first | rfl | (congr 2; push_cast; omega) | (simp; omega), rfl⟩)
      · have hk2 : m + 2 + k2 ≤ s.size := by have := runL_le (s.data.toList.drop (m + 2)); rw [g3, List.length_drop, ← Lib.size_eq] at this; omega
        have x1 : ((s[m].toNat : Int) == 101) = true := u8_eq _ 101 101 rfl g1
        have x2 : ((s[m + 1].toNat : Int) == 45) = true := u8_eq _ 45 45 rfl g2
        have R2 := Lib.hid (rrun_at s (m + 2) hs h' k2 g3 ((m : Int) + 1 + 1) (by omega))
        have HF : Hid (lenL s.data.toList = m + if k2 = 0 then 0 else min k2 3 + 2) := Lib.hid (by rw [HM.out, g4])
        clear g1 g2 g3 g4
        rcases (by omega : k2 = 0 ∨ (0 < k2 ∧ k2 < 3) ∨ 3 ≤ k2) with z | ⟨z, z'⟩ | z
        · subst z
          go_enter Tryd.func55, Tryd.ntmps55
          go_wp2_with (first | (go_at_call 76; (with_reducible refine (R0.out _).mono ?_); rintro e w' ⟨rfl, rfl⟩) | (go_at_call 76; (with_reducible refine (R1.out _).mono ?_); rintro e w' ⟨rfl, rfl⟩) | (go_at_call 76; (with_reducible refine (R2.out _).mono ?_); rintro e w' ⟨rfl, rfl⟩))
          all_goals (go_ret; exact ⟨by rw [HF.out]; first | rfl | (congr 2; push_cast; omega) | (simp; omega), rfl⟩)
        · have HF2 := Lib.hid (HF.out.trans (by rw [if_neg (by omega), Nat.min_eq_left (by omega)] : _ = m + (k2 + 2)))
          have e1 : min (k2 : Int) 3 = k2 := by omega
          clear HF
          have HF := HF2
          go_enter Tryd.func55, Tryd.ntmps55
          go_wp2_with (first | (go_at_call 76; (with_reducible refine (R0.out _).mono ?_); rintro e w' ⟨rfl, rfl⟩) | (go_at_call 76; (with_reducible refine (R1.out _).mono ?_); rintro e w' ⟨rfl, rfl⟩) | (go_at_call 76; (with_reducible refine (R2.out _).mono ?_); rintro e w' ⟨rfl, rfl⟩))
          all_goals (go_ret; exact ⟨by rw [HF.out]; first | rfl | (congr 2; push_cast; omega) | (simp; omega), rfl⟩)
        · have HF2 := Lib.hid (HF.out.trans (by rw [if_neg (by omega), Nat.min_eq_right (by omega)] : _ = m + (3 + 2)))
          have e1 : min (k2 : Int) 3 = 3 := by omega
          clear HF
          have HF := HF2
          go_enter Tryd.func55, Tryd.ntmps55
          go_wp2_with (first | (go_at_call 76; (with_reducible refine (R0.out _).mono ?_); rintro e w' ⟨rfl, rfl⟩) | (go_at_call 76; (with_reducible refine (R1.out _).mono ?_); rintro e w' ⟨rfl, rfl⟩) | (go_at_call 76; (with_reducible refine (R2.out _).mono ?_); rintro e w' ⟨rfl, rfl⟩))
          all_goals (go_ret; exact ⟨by rw [HF.out]; first | rfl | (congr 2; push_cast; omega) | (simp; omega), rfl⟩)
end Go.Proofs.YtcajdkncohcaeaaDoor
end
section
namespace Go.Proofs.YtcajdkncohcaeaaDoor
set_option linter.unusedVariables false
set_option linter.unusedSimpArgs false
open Go.RowKit Go.Proofs.YtcajdkncohcaeaaDoorW.PrintWords
attribute [local go_sem high] eqTok eqFlt
def okc (k c : Nat) : Bool := isLetter c || (decide (0 < k) && isDigit c)
def okFrom : Nat → List UInt8 → Bool
  | _, [] => true
  | k, c :: l => okc k c.toNat && okFrom (k + 1) l
def wordB (s : ByteArray) : Bool := (decide (1 ≤ s.size) && decide (s.size ≤ 16)) && okFrom 0 s.data.toList
theorem okFrom_wordFrom : ∀ (l : List UInt8) (k : Nat), okFrom k l = decide (wordFrom k l = k + l.length)
  | [], k => by simp [okFrom, wordFrom]
  | c :: l, k => by
    unfold okFrom wordFrom okc
    have ih := okFrom_wordFrom l (k + 1)
    have hle := wordFrom_le l (k + 1)
    split
    · rename_i h; rw [h, ih]; simp only [Bool.true_and, List.length_cons]; congr 1; rw [eq_iff_iff]; omega
    · rename_i h
      rw [Bool.eq_false_iff.2 h]; simp
theorem wordB_eq (s : ByteArray) : wordB s = (!s.toList.isEmpty && (decide (s.size ≤ 16) && decide (wordFrom 0 s.data.toList = s.size))) := by
  unfold wordB
  rw [okFrom_wordFrom, empty_size, ← Lib.size_eq, Nat.zero_add, Bool.and_assoc]
  rw [show decide (1 ≤ s.size) = !decide (s.size = 0) by rw [Bool.eq_iff_iff, Bool.not_eq_true', decide_eq_false_iff_not, decide_eq_true_eq]; omega]
theorem isName_wordB (s : ByteArray) : isName s = (wordB s && !Lib.containsS wordsZ s) := by
  rw [wordB_eq, isName]; simp only [Bool.and_assoc]
theorem bs_toList (l : List UInt8) : (bs l).toList = l := by rw [Lib.toList_data]; rfl
theorem own_no (s : ByteArray) (h : Lib.containsS wordsZ s = false) : ¬ s.toList = [117, 110, 105, 116] ∧ ¬ s.toList = [115, 111, 117, 114, 99, 101] ∧ ¬ s.toList = [99, 111, 118] ∧ ¬ s.toList = [108, 101, 116] ∧ ¬ s.toList = [111, 117, 116, 112, 117, 116] ∧ ¬ s.toList = [105, 110] := by
  have hm : ∀ l, bs l ∈ wordsZ → ¬ s.toList = l := by
    intro l hl he
    have : s = bs l := by
      apply ByteArray.ext; rw [← Array.toList_inj, ← Lib.toList_data, he]; rfl
    rw [← this] at hl
    have := (Lib.containsS_iff wordsZ s).2 hl
    rw [h] at this; cases this
  refine ⟨hm _ ?_, hm _ ?_, hm _ ?_, hm _ ?_, hm _ ?_, hm _ ?_⟩ <;> simp [wordsZ]
end Go.Proofs.YtcajdkncohcaeaaDoor
end
section
namespace Go.Proofs.YtcajdkncohcaeaaDoor
set_option linter.unusedVariables false
set_option linter.unusedSimpArgs false
open Go.RowKit Go.Proofs.YtcajdkncohcaeaaDoorW.PrintWords
attribute [local go_sem high] eqTok eqFlt
def drawn (w w' : World) : Prop := ∃ n, w' = w.drewN n
theorem isName_okFrom (s : ByteArray) : isName s = (okFrom 0 s.data.toList && ((decide (1 ≤ s.size) && decide (s.size ≤ 16)) && !Lib.containsS wordsZ s)) := by
  rw [isName_wordB, wordB]
  cases okFrom 0 s.data.toList <;> simp
set_option maxRecDepth 20000 in
set_option maxHeartbeats 4000000 in
theorem risName_any (s : ByteArray) (w : World) (hs : s.size ≤ 140737488351232) :
    Calls Tryd.prog 20 #[.string s] w fun e w' => e = .returned (.bool (isName s)) ∧ w = w' := by
  have H0 : Hid (isName s = (okFrom 0 s.data.toList && ((decide (1 ≤ s.size) && decide (s.size ≤ 16)) && !Lib.containsS wordsZ s))) := Lib.hid (isName_okFrom s)
  go_enter Tryd.func20, Tryd.ntmps20
  go_wp2_with fail
  go_loop [3] (fun i => ∃ k : Nat, i = .int .i64 k ∧ k ≤ s.size ∧ Hid (okFrom k (s.data.toList.drop k) = okFrom 0 s.data.toList)) (fun i => s.size - (intOf i).toNat)
  case atStart => exact ⟨0, rfl, Nat.zero_le _, Lib.hid rfl⟩
  case round =>
    obtain ⟨k, rfl, hk, HA⟩ := hrel
    by_cases hlt : k < s.size
    · have hd := drop_cons s k hlt
      have hb : s[k].toNat ≤ 255 := Nat.le_of_lt_succ s[k].toNat_lt
      obtain ⟨lt, hlt1⟩ : ∃ lt, isLetter s[k].toNat = lt := ⟨_, rfl⟩
      obtain ⟨dg, hdg1⟩ : ∃ dg, isDigit s[k].toNat = dg := ⟨_, rfl⟩
      have HS : Hid (((lt || (decide (0 < k) && dg)) && okFrom (k + 1) (s.data.toList.drop (k + 1))) = okFrom 0 s.data.toList) := Lib.hid (by rw [← HA.out, hd, okFrom, okc, hlt1, hdg1])
      have L1 : Hid (∀ w : World, Calls Tryd.prog 53 #[.int .u8 s[k].toNat] w fun e w' => e = .returned (.bool lt) ∧ w = w') := Lib.hid (fun w => by rw [← hlt1]; exact rletter_any _ w hb)
      have L2 : Hid (∀ w : World, Calls Tryd.prog 54 #[.int .u8 s[k].toNat] w fun e w' => e = .returned (.bool dg) ∧ w = w') := Lib.hid (fun w => by rw [← hdg1]; exact rdigit_any _ w hb)
      clear hd hlt1 hdg1 HA
      cases lt with
      | true =>
        have HS2 : Hid (okFrom (k + 1) (s.data.toList.drop (k + 1)) = okFrom 0 s.data.toList) := Lib.hid (by rw [← HS.out]; rfl)
        go_wp2_with (go_at_call 53; (with_reducible refine (L1.out _).mono ?_); rintro e w' ⟨rfl, rfl⟩)
        go_round
        case rel => exact ⟨k + 1, by go_num, by omega, HS2⟩
        case measure => simp [intOf]; omega
      | false =>
        rcases Nat.eq_zero_or_pos k with hk0 | hk0
        · have HF : Hid (isName s = false) := Lib.hid (by rw [H0.out, ← HS.out, hk0]; simp)
          have ek : ((k : Int) == 0) = true := by simp; omega
          have ek2 : (k == 0) = true := by simp; omega
          clear hk0
          go_wp2_with (go_at_call 53; (with_reducible refine (L1.out _).mono ?_); rintro e w' ⟨rfl, rfl⟩)
          go_ret
          exact ⟨by rw [HF.out]; rfl, rfl⟩
        · have ek : ((k : Int) == 0) = false := by simp; omega
          have ek2 : (k == 0) = false := by simp; omega
          cases dg with
          | true =>
            have HS2 : Hid (okFrom (k + 1) (s.data.toList.drop (k + 1)) = okFrom 0 s.data.toList) := Lib.hid (by rw [← HS.out, decide_eq_true hk0]; rfl)
            go_wp2_with (first | (go_at_call 53; (with_reducible refine (L1.out _).mono ?_); rintro e w' ⟨rfl, rfl⟩) | (go_at_call 54; (with_reducible refine (L2.out _).mono ?_); rintro e w' ⟨rfl, rfl⟩))
            go_round
            case rel => exact ⟨k + 1, by go_num, by omega, HS2⟩
            case measure => simp [intOf]; omega
          | false =>
            have HF : Hid (isName s = false) := Lib.hid (by rw [H0.out, ← HS.out]; simp)
            go_wp2_with (first | (go_at_call 53; (with_reducible refine (L1.out _).mono ?_); rintro e w' ⟨rfl, rfl⟩) | (go_at_call 54; (with_reducible refine (L2.out _).mono ?_); rintro e w' ⟨rfl, rfl⟩))
            go_ret
            exact ⟨by rw [HF.out]; rfl, rfl⟩
    · have HK : Hid (isName s = ((decide (1 ≤ s.size) && decide (s.size ≤ 16)) && !Lib.containsS wordsZ s)) := Lib.hid (by
        rw [H0.out, ← HA.out, List.drop_of_length_le (by rw [← Lib.size_eq]; omega), okFrom, Bool.true_and])
      clear HA H0
      by_cases h1 : 1 ≤ s.size
      · by_cases h2 : s.size ≤ 16
        · have e2 : decide ((s.size : Int) ≤ 16) = true := by simp; omega
          cases hown : Lib.containsS wordsZ s with
          | false =>
            have HF : Hid (isName s = true) := Lib.hid (by rw [HK.out, hown, decide_eq_true h1, decide_eq_true h2]; rfl)
            obtain ⟨n1, n2, n3, n4, n5, n6⟩ := own_no s hown
            have m1 := beq_eq_false_iff_ne.2 n1
            have m2 := beq_eq_false_iff_ne.2 n2
            have m3 := beq_eq_false_iff_ne.2 n3
            have m4 := beq_eq_false_iff_ne.2 n4
            have m5 := beq_eq_false_iff_ne.2 n5
            have m6 := beq_eq_false_iff_ne.2 n6
            clear hown
            go_wp2_with fail
            go_ret
            exact ⟨by rw [HF.out]; rfl, rfl⟩
          | true =>
            have HF : Hid (isName s = false) := Lib.hid (by rw [HK.out, hown]; simp)
            have hm := (Lib.containsS_iff wordsZ s).1 hown
            simp only [wordsZ, List.mem_cons, List.not_mem_nil, or_false] at hm
            have hl := fun l (h : s = bs l) => (by rw [h, bs_toList] : s.toList = l)
            clear hown
            rcases hm with hm | hm | hm | hm | hm | hm
            all_goals
              have hl1 := hl _ hm
              clear hl hm
              go_wp2_with fail
              go_ret
              exact ⟨by rw [HF.out]; rfl, rfl⟩
        · have e2 : decide ((s.size : Int) ≤ 16) = false := by simp; omega
          have HF : Hid (isName s = false) := Lib.hid (by rw [HK.out, decide_eq_false h2]; simp)
          go_wp2_with fail
          go_ret
          exact ⟨by rw [HF.out]; rfl, rfl⟩
      · have HF : Hid (isName s = false) := Lib.hid (by rw [HK.out, decide_eq_false h1]; simp)
        go_wp2_with fail
        go_ret
        exact ⟨by rw [HF.out]; rfl, rfl⟩
end Go.Proofs.YtcajdkncohcaeaaDoor
end
