import Derived.Test.YtcajdkncohcaeaaDoorLxI
namespace Go.Proofs.YtcajdkncohcaeaaDoor
set_option linter.unusedVariables false
set_option linter.unusedSimpArgs false
open Go.RowKit Go.Proofs.YtcajdkncohcaeaaDoorW.PrintWords

theorem skipL_le : ∀ (l : List UInt8) (b : Bool), skipL b l ≤ l.length
  | [], b => by cases b <;> simp [skipL]
  | c :: l, b => by
    have h1 := skipL_le l false
    have h2 := skipL_le l true
    cases b <;> simp only [skipL, List.length_cons] <;> repeat' split
    all_goals omega
theorem tokTk_le (s : ByteArray) : (tokTk s).2.2 ≤ s.size := by
  have hl := Lib.size_eq s
  unfold tokTk
  split
  · simp [noTk]
  · rename_i c l he
    have hpos : 0 < s.size := by rw [hl, he]; simp
    unfold tokK
    split
    · unfold wordTk; split
      · simp [noTk]
      · have := wordFrom_le s.data.toList 0; simp only []; omega
    · split
      · unfold numTk; split
        · simp [noTk]
        · have := lenL_le s.data.toList; simp only []; omega
      · split
        · unfold unitsTk; simp only []; split
          · simp [noTk]
          · rename_i h
            have := indexByte_lt s.data.toList 93
            rcases this with h1 | h1
            · simp only []; omega
            · rw [he] at h1; cases h1
        · split
          · simp only []; omega
          · simp [noTk]

def pre (acc : List Tok) : Except Nat (List Tok) → Except Nat (List Tok)
  | .ok l => .ok (acc ++ l)
  | .error e => .error e
theorem pre_nil (r : Except Nat (List Tok)) : pre [] r = r := by cases r <;> rfl
theorem pre_cons (acc : List Tok) (t : Tok) (r : Except Nat (List Tok)) :
    pre acc (consTok t r) = pre (acc ++ [t]) r := by cases r <;> simp [pre, consTok]

def TokensPost (t : List Tok × Int × Int) (w : World) (e : Ending) (w' : World) : Prop :=
  ∃ v, e = .returned (.tuple #[v, .agg #[.int .i64 t.2.1, .int .i64 t.2.2]]) ∧ Kd.R kTok 36 w' w.heap.size (fun _ => True) v t.1 ∧ Below w.heap.size w w'

set_option maxRecDepth 20000 in
set_option maxHeartbeats 2000000 in
theorem tokens_any (s : ByteArray) (w : World) (hs : s.size ≤ 140737488351232) (hG : Glob w) :
    Calls Tryd.prog 16 #[.string s] w (TokensPost (tokensOf s) w) := by
  by_cases hbig : s.size > 4000
  · rw [tokensOf, if_pos hbig]
    go_enter Tryd.func16, Tryd.ntmps16
    go_wp2_with fail
    exact bodyPost_ret (v := .tuple #[.slice none 0 0, .agg #[.int .i64 2, .int .i64 0]]) (by simp [results, Tryd.results16, go_sem]) rfl ⟨_, rfl, Kd.R_nil _ _ _ _ _, by exact bl_alloc (Below.refl _ _) _⟩
  · have hsm : s.size ≤ 4000 := by omega
    rw [tokensOf, if_neg hbig]
    obtain ⟨r, hr⟩ : ∃ r, lexAll s = r := ⟨_, rfl⟩
    rw [hr]
    have H0 : Hid (pre [] (lexA (s.size + 1) (skipL false s.data.toList) s) = r) := Lib.hid (by rw [pre_nil, ← hr]; rfl)
    have hk0 : skipL false s.data.toList ≤ s.size := by rw [Lib.size_eq]; exact skipL_le _ _
    obtain ⟨k0, hk00⟩ : ∃ k0, skipL false s.data.toList = k0 := ⟨_, rfl⟩
    rw [hk00] at H0 hk0
    clear hr hbig
    have HB0 : Hid (Below w.heap.size w (w.alloc (.cells #[.int .i64 0, .int .i64 0] 26))) := Lib.hid (bl_alloc (Below.refl _ _) _)
    have hG0 := hG.alloc (.cells #[.int .i64 0, .int .i64 0] 26)
    obtain ⟨w0, hw0⟩ : ∃ w0, w.alloc (.cells #[.int .i64 0, .int .i64 0] 26) = w0 := ⟨_, rfl⟩
    have hz0 : w0.heap.size = w.heap.size + 1 := by rw [← hw0]; simp
    have c0 : w0.cell? ⟨w.heap.size, 0, none⟩ = some (.int .i64 0) := by rw [← hw0]; simp
    have c1 : w0.cell? ⟨w.heap.size, 1, none⟩ = some (.int .i64 0) := by rw [← hw0]; simp
    have f0 : ∀ j, w0.frozen? ⟨w.heap.size, j, none⟩ = false := by intro j; rw [← hw0]; simp
    rw [hw0] at hG0 HB0
    go_enter Tryd.func16, Tryd.ntmps16
    go_wp2_with (go_at_call 51; (with_reducible refine (skipped_any s _ hs (by first | exact hG0 | exact hG.alloc _)).mono ?_); rintro e w' ⟨rfl, rfl⟩)
    clear hk00 hw0
    go_loopw [4, 5] (fun v i wr => ∃ (k f : Nat) (acc : List Tok), i = .int .i64 k ∧ k ≤ s.size ∧ s.size - k < f ∧ acc.length ≤ k ∧ Hid (pre acc (lexA f k s) = r) ∧ Hid (Kd.R kTok 36 wr w0.heap.size (fun _ => True) v acc) ∧ Hid (Below w0.heap.size w0 wr)) (fun _ i _ => s.size - (intOf i).toNat)
    case atStart => exact ⟨k0, s.size + 1, [], rfl, hk0, by omega, Nat.zero_le _, H0, Lib.hid (Kd.R_nil _ _ _ _ _), Lib.hid (Below.refl _ _)⟩
    case round =>
      obtain ⟨k, f, acc, rfl, hk, hf, ha, HA, HO, HB⟩ := hrel
      obtain ⟨f, rfl⟩ : ∃ g, f = g + 1 := ⟨f - 1, by omega⟩
      have hzr : w.heap.size + 1 ≤ wr.heap.size := by have := HB.out.size; omega
      have hGr : Glob wr := hG0.below HB.out
      have HW : Hid (Below w.heap.size w wr) := Lib.hid (bl_then HB0.out HB.out)
      obtain ⟨hc, hfr⟩ := bcell HB.out
      have c0r : wr.cell? ⟨w.heap.size, 0, none⟩ = some (.int .i64 0) := (hc _ _ (by omega)).trans c0
      have c1r : wr.cell? ⟨w.heap.size, 1, none⟩ = some (.int .i64 0) := (hc _ _ (by omega)).trans c1
      have f0r : ∀ j, wr.frozen? ⟨w.heap.size, j, none⟩ = false := fun j => (hfr _ _ (by omega)).trans (f0 j)
      clear hc hfr
      by_cases hlt : k < s.size
      · have hsz : (s.extract k s.size).size = s.size - k := by simp
        have hle := tokTk_le (s.extract k s.size)
        rw [hsz] at hle
        obtain ⟨⟨a, b, c⟩, ht⟩ : ∃ t, tokTk (s.extract k s.size) = t := ⟨_, rfl⟩
        rw [ht] at hle
        replace hle : c ≤ s.size - k := hle
        have HT0 := token_any (s.extract k s.size) wr (by omega) (by omega) hGr
        rw [ht] at HT0
        have HT := Lib.hid HT0
        clear HT0
        by_cases hc0 : c = 0
        · have HF : Hid (r = .error k) := Lib.hid (by rw [← HA.out, lexA, if_pos hlt]; simp [ht, hc0, pre])
          subst hc0
          clear HA ht hsz hle HO
          go_wp2_with fail
          refine HT.out.mono ?_; rintro e w1 ⟨rfl, hb1⟩
          have hz1 := hb1.size
          obtain ⟨hc, hfr⟩ := bcell hb1
          have c01 := (hc w.heap.size 0 (by omega)).trans c0r
          have c11 := (hc w.heap.size 1 (by omega)).trans c1r
          have f01 := fun j => (hfr w.heap.size j (by omega)).trans (f0r j)
          have HW1 := Lib.hid (bl_then HW.out hb1)
          have hz2 : w.heap.size < w1.heap.size := by omega
          clear hc hfr c0r c1r f0r hb1
          simp only [tkV]
          go_wp2_with fail
          rw [HF.out]
          exact bodyPost_ret (v := .tuple #[.slice none 0 0, .agg #[.int .i64 11, .int .i64 k]]) (by simp [results, Tryd.results16, go_sem, c01, c11, f01, hz2, Nat.ne_of_lt hz2]) rfl ⟨_, rfl, Kd.R_nil _ _ _ _ _, by repeat (first | exact HW1.out | refine bl_set ?_ (Nat.le_refl _) _ | refine bl_set ?_ (by show w.heap.size ≤ w1.heap.size; omega) _ | refine bl_alloc ?_ _)⟩
        · have hcn : ((c : Int) == 0) = false := by simpa using hc0
          have HS : Hid (pre (acc ++ [⟨a, b, k⟩]) (lexA f (k + c + skipL false (s.data.toList.drop (k + c))) s) = r) := Lib.hid (by
            rw [← pre_cons, ← HA.out, lexA, if_pos hlt]; simp [ht, hc0])
          have hkc : k + c ≤ s.size := by omega
          have hsk := skipL_le (s.data.toList.drop (k + c)) false
          have hld : (s.data.toList.drop (k + c)).length = s.size - (k + c) := by simp
          rw [hld] at hsk
          have HK := skipped_any (s.extract (k + c) s.size)
          rw [Lib.extract_to_end] at HK
          obtain ⟨m, hm⟩ : ∃ m, skipL false (s.data.toList.drop (k + c)) = m := ⟨_, rfl⟩
          rw [hm] at HS hsk HK
          have HK := Lib.hid HK
          clear HA ht hsz hle hld hm
          go_wp2_with fail
          refine HT.out.mono ?_; rintro e w1 ⟨rfl, hb1⟩
          have hz1 := hb1.size
          have hG1 := hGr.below hb1
          have HB1 := Lib.hid (HB.out.trans (hb1.mono HB.out.size))
          have HO1 := Lib.hid (R_lt (Kd.R_below HO.out hb1))
          clear HO HB HT
          simp only [tkV]
          have hzz := HB1.out.size
          go_wp2_with (at_builtin; refine Kd.R_append kTok (w0 := w0) w0.heap.size rfl (.tmp 37) (.tmp 39) 23 36 (.agg #[.int .i64 0, .string ⟨#[]⟩, .int .i64 0]) 32 rfl Tryd.underlying23 infoTok rfl (by decide) (by decide) u4 acc ⟨a, b, k⟩ [.int .i64 a, .string b, .int .i64 k] (fun _ => True) (fun _ => False) rfl ?a0 (kTok_mkM _ _ _ _) (fun _ hk => hk.elim) (fun _ _ => trivial) ?a1 ?a2 ?a3 ?a4 ?_; (case a0 => first | (go_simp; done) | (go_simp; rfl)); (case a1 => exact Kd.R_mono (Kd.R_alloc HO1.out _) (fun _ _ => trivial)); (case a2 => exact bl_alloc HB1.out _); (case a3 => simp; omega); (case a4 => omega); intro v1 w2 hO2 hB2 hg2 _; have HO2 := Lib.hid hO2; have HB2 := Lib.hid hB2; clear hO2 hB2 hg2)
          with_reducible refine (HK.out _ (by simp; omega) (hG0.below HB2.out)).mono ?_
          rintro e w3 ⟨rfl, rfl⟩
          go_wp2_with fail
          go_roundw
          case rel => exact ⟨k + c + m, f, acc ++ [⟨a, b, k⟩], by go_num, by omega, by omega, by simp; omega, HS, HO2, HB2⟩
          case measure => simp [intOf]; omega
      · have HF : Hid (r = .ok acc) := Lib.hid (by rw [← HA.out, lexA, if_neg hlt]; simp [pre])
        clear HA
        obtain ⟨A, c, rfl⟩ := Kd.R_slice HO.out
        go_wp2_with fail
        rw [HF.out]
        exact bodyPost_ret (v := .tuple #[.slice A acc.length c, .agg #[.int .i64 0, .int .i64 0]]) (by simp [results, Tryd.results16, go_sem, c0r, c1r, f0r]) rfl ⟨_, rfl, Kd.R_lower (base := w0.heap.size) (by repeat (first | exact HO.out | refine R_setBelow ?_ (by show w.heap.size < _; omega) _)) (by omega), by repeat (first | exact HW.out | refine bl_set ?_ (Nat.le_refl _) _)⟩
end Go.Proofs.YtcajdkncohcaeaaDoor
