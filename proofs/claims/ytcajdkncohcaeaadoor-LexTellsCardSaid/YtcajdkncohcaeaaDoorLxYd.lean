import Derived.Test.YtcajdkncohcaeaaDoorLxYa
namespace Go.Proofs.YtcajdkncohcaeaaDoor
set_option linter.unusedVariables false
set_option linter.unusedSimpArgs false
open Go.RowKit Go.Proofs.YtcajdkncohcaeaaDoorW.PrintWords

set_option maxRecDepth 1000000 in
set_option maxHeartbeats 0 in
theorem rcase_num {s : ByteArray} {w w0 wr : World} {g : Nat} {r : Except Nat (List Tok)} {K : Act → World → Prop} {f k : Nat} {acc : List Tok} {v : Value} {u5 u6 u7 u13 u14 u15 u16 u17 u18 u19 u20 u21 u22 u23 u24 u25 u26 u27 u28 u29 u30 u31 u32 u33 u34 u35 u36 u37 u38 u39 u40 u41 u42 u43 u44 u45 u46 u47 u48 u49 u50 u51 u52 u53 u54 u55 u56 u57 u58 u59 u60 u61 u62 u63 u64 u65 u66 u67 u68 u69 u70 u71 u72 u73 u74 u75 u76 u77 u78 u79 u80 u81 u82 u83 u84 u85 u86 u87 u88 u89 u90 u91 u92 u93 u94 u95 u96 u97 u98 u99 u100 u101 u102 u103 u104 u105 u106 u107 u108 u109 u110 u111 u112 u113 u114 u115 u116 u117 u118 u119 u120 u121 u122 u123 u124 u125 u126 u127 u128 u129 u130 u131 u132 u133 u134 u135 u136 u137 u138 u139 u140 u141 u142 u143 u144 u145 u146 u147 u148 u149 u150 u151 u152 u153 u154 u155 u156 u157 u158 u159 u160 u161 u162 u163 u164 u165 u166 u167 u168 u169 u170 u171 u172 u173 u174 u175 u176 u177 u178 u179 u180 u181 u182 u183 u184 u185 u186 u187 u188 u189 u190 u191 u192 u193 u194 u195 u196 u197 u198 u199 u200 u201 u202 u203 u204 u205 u206 u207 u208 u209 u210 u211 u212 u213 u214 u215 u216 u217 u218 u219 u220 u221 u222 u223 u224 u225 u226 u227 u228 u229 u230 u231 u232 u233 u234 u235 u236 u237 u238 u239 u240 u241 u242 : Value} (hs : s.size ≤ 140737488351232) (hsm : s.size ≤ 4000) (hz0 : w0.heap.size = g + 1) (hsi : (s.size : Int) ≤ 4000) (hk : k ≤ s.size) (hf : s.size - k < f) (ha : acc.length ≤ k) (HA : Hid (pre acc (lexT f k s) = r)) (HBK : Hid (wr.heap[g]? = some (gotBlk v))) (HR : Hid (Kd.R kTok 36 wr (g + 1) (fun _ => True) v acc)) (HB : Hid (Below g w0 wr)) (hsz : w0.heap.size ≤ wr.heap.size) (d0 : wr.cell? ⟨w.heap.size, 0, none⟩ = some (.slice none 0 0)) (d1 : wr.cell? ⟨w.heap.size, 1, none⟩ = some (.int .i64 0)) (d2 : wr.cell? ⟨w.heap.size, 2, none⟩ = some (.int .i64 0)) (df : ∀ j, wr.frozen? ⟨w.heap.size, j, none⟩ = false) (v0 : wr.cell? ⟨g, 0, none⟩ = some v) (v1 : wr.cell? ⟨g, 1, none⟩ = some (.int .i64 0)) (v2 : wr.cell? ⟨g, 2, none⟩ = some (.int .i64 0)) (vf : ∀ j, wr.frozen? ⟨g, j, none⟩ = false) (HW : Hid (Below w.heap.size w wr)) (hgs : g < wr.heap.size) (hws : w.heap.size < wr.heap.size) (hne : w.heap.size ≠ g) (hgl : w.heap.size < g) (hlt : k < s.size) (hblank : ¬ isBlank s[k].toNat = true) (hnote : s[k].toNat ≠ 35) (hlet : isLetter s[k].toNat = false) (hdig : isDigit s[k].toNat = true) :
    Code.wp Tryd.prog rBody (rQ s w w0 g r K #[.string s, undef, .pointer (some ⟨w.heap.size, 0, none⟩), .pointer (some ⟨g, 0, none⟩), .int .i64 k, u5, u6, u7, .string s, .int .i64 (s.size : Int), .bool (decide ((4000 : Int) < (s.size : Int))), undef, .agg #[.slice none 0 0, .int .i64 0, .int .i64 0], u13, u14, u15, u16, u17, u18, u19, u20, u21, u22, u23, u24, u25, u26, u27, u28, u29, u30, u31, u32, u33, u34, u35, u36, u37, u38, u39, u40, u41, u42, u43, u44, u45, u46, u47, u48, u49, u50, u51, u52, u53, u54, u55, u56, u57, u58, u59, u60, u61, u62, u63, u64, u65, u66, u67, u68, u69, u70, u71, u72, u73, u74, u75, u76, u77, u78, u79, u80, u81, u82, u83, u84, u85, u86, u87, u88, u89, u90, u91, u92, u93, u94, u95, u96, u97, u98, u99, u100, u101, u102, u103, u104, u105, u106, u107, u108, u109, u110, u111, u112, u113, u114, u115, u116, u117, u118, u119, u120, u121, u122, u123, u124, u125, u126, u127, u128, u129, u130, u131, u132, u133, u134, u135, u136, u137, u138, u139, u140, u141, u142, u143, u144, u145, u146, u147, u148, u149, u150, u151, u152, u153, u154, u155, u156, u157, u158, u159, u160, u161, u162, u163, u164, u165, u166, u167, u168, u169, u170, u171, u172, u173, u174, u175, u176, u177, u178, u179, u180, u181, u182, u183, u184, u185, u186, u187, u188, u189, u190, u191, u192, u193, u194, u195, u196, u197, u198, u199, u200, u201, u202, u203, u204, u205, u206, u207, u208, u209, u210, u211, u212, u213, u214, u215, u216, u217, u218, u219, u220, u221, u222, u223, u224, u225, u226, u227, u228, u229, u230, u231, u232, u233, u234, u235, u236, u237, u238, u239, u240, u241, u242, undef]) { tmps := #[.string s, undef, .pointer (some ⟨w.heap.size, 0, none⟩), .pointer (some ⟨g, 0, none⟩), .int .i64 k, u5, u6, u7, .string s, .int .i64 (s.size : Int), .bool (decide ((4000 : Int) < (s.size : Int))), undef, .agg #[.slice none 0 0, .int .i64 0, .int .i64 0], u13, u14, u15, u16, u17, u18, u19, u20, u21, u22, u23, u24, u25, u26, u27, u28, u29, u30, u31, u32, u33, u34, u35, u36, u37, u38, u39, u40, u41, u42, u43, u44, u45, u46, u47, u48, u49, u50, u51, u52, u53, u54, u55, u56, u57, u58, u59, u60, u61, u62, u63, u64, u65, u66, u67, u68, u69, u70, u71, u72, u73, u74, u75, u76, u77, u78, u79, u80, u81, u82, u83, u84, u85, u86, u87, u88, u89, u90, u91, u92, u93, u94, u95, u96, u97, u98, u99, u100, u101, u102, u103, u104, u105, u106, u107, u108, u109, u110, u111, u112, u113, u114, u115, u116, u117, u118, u119, u120, u121, u122, u123, u124, u125, u126, u127, u128, u129, u130, u131, u132, u133, u134, u135, u136, u137, u138, u139, u140, u141, u142, u143, u144, u145, u146, u147, u148, u149, u150, u151, u152, u153, u154, u155, u156, u157, u158, u159, u160, u161, u162, u163, u164, u165, u166, u167, u168, u169, u170, u171, u172, u173, u174, u175, u176, u177, u178, u179, u180, u181, u182, u183, u184, u185, u186, u187, u188, u189, u190, u191, u192, u193, u194, u195, u196, u197, u198, u199, u200, u201, u202, u203, u204, u205, u206, u207, u208, u209, u210, u211, u212, u213, u214, u215, u216, u217, u218, u219, u220, u221, u222, u223, u224, u225, u226, u227, u228, u229, u230, u231, u232, u233, u234, u235, u236, u237, u238, u239, u240, u241, u242, undef], defers := [] } wr := by
  conv => arg 2; whnf
  unfold rQ
  have hc : s[k].toNat ≤ 255 := Nat.le_of_lt_succ s[k].toNat_lt
  obtain ⟨c, hcc⟩ : ∃ c : Nat, s[k].toNat = c := ⟨_, rfl⟩
  rw [hcc] at hc hblank hnote hlet hdig
  have hbl : isBlank c = false := by simpa using hblank
  have b1 : ((c : Int) == 32) = false := by unfold isBlank at hbl; simp at hbl ⊢; omega
  have b2 : ((c : Int) == 9) = false := by unfold isBlank at hbl; simp at hbl ⊢; omega
  have b3 : ((c : Int) == 10) = false := by unfold isBlank at hbl; simp at hbl ⊢; omega
  clear hblank
  have e35 : ((c : Int) == 35) = false := by simp; omega
  obtain ⟨f, rfl⟩ : ∃ f', f = f' + 1 := ⟨f - 1, by omega⟩
  have HT := lexT_tok f k s hlt (by rw [hcc]; exact hbl) (by rw [hcc]; exact hnote)
  rw [hcc] at HT
  have HS : Hid (pre acc (if (tokK (kindOf c) (s.extract k s.size)).2.2 = 0 then .error k
    else consTok ⟨(tokK (kindOf c) (s.extract k s.size)).1, (tokK (kindOf c) (s.extract k s.size)).2.1, k⟩ (lexT f (k + (tokK (kindOf c) (s.extract k s.size)).2.2) s)) = r) := Lib.hid (by rw [← HT]; exact HA.out)
  have hnt : c ≠ 35 := hnote
  clear HT HA hnote hbl
  have Lt : Hid (∀ w : World, Calls Tryd.prog 53 #[.int .u8 c] w fun e w' => e = .returned (.bool (isLetter c)) ∧ w = w') := Lib.hid (fun w => rletter_any _ w hc)
  have Dg : Hid (∀ w : World, Calls Tryd.prog 54 #[.int .u8 c] w fun e w' => e = .returned (.bool (isDigit c)) ∧ w = w') := Lib.hid (fun w => rdigit_any _ w hc)
  have hk3 : kindOf c = 3 := by have := kind_digit c; rw [hdig] at this; simpa using this
  obtain ⟨n, hn⟩ : ∃ n, lenL (s.data.toList.drop k) = n := ⟨_, rfl⟩
  have hn0 : 0 < n := by rw [← hn, drop_cons s k hlt]; exact lenL_pos _ _ (by rw [hcc]; exact hdig)
  have hnle : k + n ≤ s.size := by have := lenL_le (s.data.toList.drop k); rw [hn, List.length_drop, ← Lib.size_eq] at this; omega
  have hW : numTk (s.extract k s.size) = if (decide (400 < n) || behindNum (s.data.toList.drop (k + n))) = true then noTk else (2, s.extract k (k + n), n) := by
    rw [numTk, Lib.extract_to_end, hn, extract_extract0 s k 0 n hnle, List.drop_drop]; rfl
  have HS1 : Hid (pre acc (if (if (decide (400 < n) || behindNum (s.data.toList.drop (k + n))) = true then noTk else (2, s.extract k (k + n), n)).2.2 = 0 then .error k
    else consTok ⟨(if (decide (400 < n) || behindNum (s.data.toList.drop (k + n))) = true then noTk else (2, s.extract k (k + n), n)).1, (if (decide (400 < n) || behindNum (s.data.toList.drop (k + n))) = true then noTk else (2, s.extract k (k + n), n)).2.1, k⟩ (lexT f (k + (if (decide (400 < n) || behindNum (s.data.toList.drop (k + n))) = true then noTk else (2, s.extract k (k + n), n)).2.2) s)) = r) := Lib.hid (by
    have := HS.out
    rw [hk3, show tokK 3 (s.extract k s.size) = numTk (s.extract k s.size) from rfl, hW] at this
    exact this)
  have Ln : Hid (∀ w : World, Calls Tryd.prog 55 #[.string (s.extract k s.size)] w fun e w' => e = .returned (.int .i64 n) ∧ w = w') := Lib.hid (fun w => by
    have := rlength_any (s.extract k s.size) w (by simp; omega)
    rw [Lib.extract_to_end, hn] at this; exact this)
  rw [hlet] at Lt
  rw [hdig] at Dg
  have hkp0 : k ≤ s.size := hk
  obtain ⟨p, hp⟩ : ∃ p, k + n = p := ⟨_, rfl⟩
  have hpi : (k : Int) + (n : Int) = (p : Int) := by omega
  rw [hp] at HS1 hnle
  clear HS hk3 hn hW hlet hdig
  by_cases h4 : 400 < n
  · have h4i : (400 : Int) < (n : Int) := by omega
    have HE : Hid (r = .error k) := Lib.hid (by rw [← HS1.out, if_pos (show (decide (400 < n) || behindNum (s.data.toList.drop p)) = true from by rw [decide_eq_true h4]; rfl), if_pos (show noTk.2.2 = 0 from rfl)]; rfl)
    clear HS1
    go_wp2_with (first | (go_at_call 53; (with_reducible refine (Lt.out _).mono ?_); rintro e w' ⟨rfl, rfl⟩) | (go_at_call 54; (with_reducible refine (Dg.out _).mono ?_); rintro e w' ⟨rfl, rfl⟩) | (go_at_call 55; (with_reducible refine (Ln.out _).mono ?_); rintro e w' ⟨rfl, rfl⟩))
    rw [HE.out]
    exact bodyPost_ret (v := .agg #[.slice none 0 0, .int .i64 11, .int .i64 k]) (by simp [results, Tryd.results17, go_sem, d0, d1, d2, df]) rfl ⟨_, rfl, Kd.R_nil _ _ _ _ _, by repeat (first | exact HW.out | refine bl_set ?_ (Nat.le_refl _) _)⟩
  · have h4i : ¬ (400 : Int) < (n : Int) := by omega
    by_cases hpl : p < s.size
    · have hd := drop_cons s p hpl
      have hpc : s[p].toNat ≤ 255 := Nat.le_of_lt_succ s[p].toNat_lt
      rw [hd] at HS1
      obtain ⟨c1, hc1⟩ : ∃ c1 : Nat, s[p].toNat = c1 := ⟨_, rfl⟩
      have L1 : Hid (∀ w : World, Calls Tryd.prog 53 #[.int .u8 c1] w fun e w' => e = .returned (.bool (isLetter c1)) ∧ w = w') := Lib.hid (fun w => rletter_any _ w (by omega))
      have hbn : behindNum (s[p] :: s.data.toList.drop (p + 1)) = (isLetter c1 || c1 == 46) := by rw [behindNum, hc1]
      rw [hbn, decide_eq_false h4, Bool.false_or] at HS1
      clear hd hbn
      cases hl1 : isLetter c1 with
      | true =>
        rw [hl1] at L1 HS1
        have HE : Hid (r = .error k) := Lib.hid (by rw [← HS1.out, if_pos (show (true || c1 == 46) = true from rfl), if_pos (show noTk.2.2 = 0 from rfl)]; rfl)
        clear HS1
        go_wp2_with (first | (go_at_call 53; (with_reducible refine (Lt.out _).mono ?_); rintro e w' ⟨rfl, rfl⟩) | (go_at_call 53; (with_reducible refine (L1.out _).mono ?_); rintro e w' ⟨rfl, rfl⟩) | (go_at_call 53; (with_reducible refine (L46.out _).mono ?_); rintro e w' ⟨rfl, rfl⟩) | (go_at_call 54; (with_reducible refine (Dg.out _).mono ?_); rintro e w' ⟨rfl, rfl⟩) | (go_at_call 55; (with_reducible refine (Ln.out _).mono ?_); rintro e w' ⟨rfl, rfl⟩))
        rw [HE.out]
        exact bodyPost_ret (v := .agg #[.slice none 0 0, .int .i64 11, .int .i64 k]) (by simp [results, Tryd.results17, go_sem, d0, d1, d2, df]) rfl ⟨_, rfl, Kd.R_nil _ _ _ _ _, by repeat (first | exact HW.out | refine bl_set ?_ (Nat.le_refl _) _)⟩
      | false =>
        rw [hl1, Bool.false_or] at HS1
        rw [hl1] at L1
        clear hl1
        by_cases h46 : c1 = 46
        · have h46i : ((c1 : Int) == 46) = true := by simp; omega
          have h46b : (c1 == 46) = true := by simp; omega
          have L46 : Hid (∀ w : World, Calls Tryd.prog 53 #[.int .u8 46] w fun e w' => e = .returned (.bool false) ∧ w = w') := Lib.hid (fun w => rletter_any 46 w (by decide))
          have HE : Hid (r = .error k) := Lib.hid (by rw [← HS1.out, if_pos (show (c1 == 46) = true from h46b), if_pos (show noTk.2.2 = 0 from rfl)]; rfl)
          clear HS1
          go_wp2_with (first | (go_at_call 53; (with_reducible refine (Lt.out _).mono ?_); rintro e w' ⟨rfl, rfl⟩) | (go_at_call 53; (refine (L46.out _).mono ?_); rintro e w' ⟨rfl, rfl⟩) | (go_at_call 54; (with_reducible refine (Dg.out _).mono ?_); rintro e w' ⟨rfl, rfl⟩) | (go_at_call 55; (with_reducible refine (Ln.out _).mono ?_); rintro e w' ⟨rfl, rfl⟩))
          rw [HE.out]
          exact bodyPost_ret (v := .agg #[.slice none 0 0, .int .i64 11, .int .i64 k]) (by simp [results, Tryd.results17, go_sem, d0, d1, d2, df]) rfl ⟨_, rfl, Kd.R_nil _ _ _ _ _, by repeat (first | exact HW.out | refine bl_set ?_ (Nat.le_refl _) _)⟩
        · have h46i : ((c1 : Int) == 46) = false := by simp; omega
          have h46b : ¬ (c1 == 46) = true := by simp; omega
          have HE : Hid (pre (acc ++ [⟨2, s.extract k p, k⟩]) (lexT f p s) = r) := Lib.hid (by
            have := HS1.out
            rw [if_neg (show ¬ (c1 == 46) = true from h46b), if_neg (show ¬ ((2, s.extract k p, n) : Tk).2.2 = 0 from by show ¬ n = 0; omega)] at this
            have h2 : pre acc (consTok ⟨2, s.extract k p, k⟩ (lexT f (k + n) s)) = r := this
            rw [hp] at h2
            rw [← pre_cons]
            exact h2)
          clear HS1
          have hkl : k < p := by omega
          have hkp : k ≤ p := Nat.le_of_lt hkl
          have hb1 : wr.drew.heap[g]? = some (gotBlk v) := HBK.out
          have e0 : wr.drew.cell? ⟨g, 0, none⟩ = some v := (blk_cell HBK.out 0).trans rfl
          have e1 : wr.drew.frozen? ⟨g, 0, none⟩ = false := blk_frozen HBK.out 0
          go_wp2_with (first | (go_at_call 53; (with_reducible refine (Lt.out _).mono ?_); rintro e w' ⟨rfl, rfl⟩) | (go_at_call 53; (with_reducible refine (L1.out _).mono ?_); rintro e w' ⟨rfl, rfl⟩) | (go_at_call 53; (with_reducible refine (L46.out _).mono ?_); rintro e w' ⟨rfl, rfl⟩) | (go_at_call 54; (with_reducible refine (Dg.out _).mono ?_); rintro e w' ⟨rfl, rfl⟩) | (go_at_call 55; (with_reducible refine (Ln.out _).mono ?_); rintro e w' ⟨rfl, rfl⟩))
          go_region_law (rw [← World.alloc_drew]; refine Kd.R_append_step kTok (w0 := wr) (g + 1) ?hw (.tmp 122) (.tmp 129) 23 36 (.agg #[.int .i64 0, .string ⟨#[]⟩, .int .i64 0]) 32 ?ho Tryd.underlying23 infoTok rfl (by decide) (by decide) v acc ⟨2, s.extract k p, k⟩ [.int .i64 2, .string (s.extract k p), .int .i64 k] (fun _ => True) (fun _ => False) ?a00 ?a0 (kTok_mkM _ _ _ _) (fun _ hk => hk.elim) (fun _ _ => trivial) ?a1 ?a2 ?a3 ?a4 ?_; (case ho => rfl); (case hw => first | rfl | (simp [Region.wanted]; done)); (case a00 => first | (go_simp; done) | (go_simp; rfl)); (case a0 => first | (go_simp; done) | (go_simp; rfl)); (case a1 => exact Kd.R_drew HR.out); (case a2 => exact (Below.refl _ _).drew); (case a3 => show g + 1 ≤ wr.heap.size; omega); (case a4 => omega); intro v1 w2 hO2 hB2 hg2 _; obtain ⟨A2, c2, rfl⟩ := Kd.R_slice hO2; rw [show (acc ++ [(⟨2, s.extract k p, k⟩ : Tok)]).length = acc.length + 1 from by simp] at hO2; have hblk2 := blk_grown hb1 hg2 (Kd.R_ne (Kd.R_drew HR.out) hb1 (by decide)); have HO2 := Lib.hid hO2; have HB2 := Lib.hid hB2; have HBK2 := Lib.hid hblk2; have y0 : w2.cell? ⟨g, 0, none⟩ = some v := (blk_cell hblk2 0).trans rfl; have y1 := blk_frozen hblk2 0; clear hO2 hB2 hg2 hblk2)
          all_goals (
            go_wp2_with fail
            go_roundw
            case rel => refine ⟨_, _, _, _, _, _, _, _, _, _, _, _, _, _, _, _, _, _, _, _, _, _, _, _, _, _, _, _, _, _, _, _, _, _, _, _, _, _, _, _, _, _, _, _, _, _, _, _, _, _, _, _, _, _, _, _, _, _, _, _, _, _, _, _, _, _, _, _, _, _, _, _, _, _, _, _, _, _, _, _, _, _, _, _, _, _, _, _, _, _, _, _, _, _, _, _, _, _, _, _, _, _, _, _, _, _, _, _, _, _, _, _, _, _, _, _, _, _, _, _, _, _, _, _, _, _, _, _, _, _, _, _, _, _, _, _, _, _, _, _, _, _, _, _, _, _, _, _, _, _, _, _, _, _, _, _, _, _, _, _, _, _, _, _, _, _, _, _, _, _, _, _, _, _, _, _, _, _, _, _, _, _, _, _, _, _, _, _, _, _, _, _, _, _, _, _, _, _, _, _, _, _, _, _, _, _, _, _, _, _, _, _, _, _, _, _, _, _, _, _, _, _, _, _, _, _, _, _, _, _, _, _, _, _, ?_, rfl⟩; exact ⟨p, by go_num, f, _, _, hnle, by omega, by simp; omega, HE.out, blk_put HBK2.out 0 _ rfl, Kd.R_set HO2.out HBK2.out (by decide) _ _, (HB.out.trans (HB2.out.mono (by omega))).setCell (by show g ≤ g; omega) _⟩
            case measure => simp [intOf]; omega)
    · rw [List.drop_eq_nil_of_le (by rw [← Lib.size_eq]; omega), decide_eq_false h4, show (false || behindNum []) = false from rfl] at HS1
      have HE : Hid (pre (acc ++ [⟨2, s.extract k p, k⟩]) (lexT f p s) = r) := Lib.hid (by
        have := HS1.out
        rw [if_neg (show ¬ false = true from Bool.false_ne_true), if_neg (show ¬ ((2, s.extract k p, n) : Tk).2.2 = 0 from by show ¬ n = 0; omega)] at this
        have h2 : pre acc (consTok ⟨2, s.extract k p, k⟩ (lexT f (k + n) s)) = r := this
        rw [hp] at h2
        rw [← pre_cons]
        exact h2)
      clear HS1
      have hkl : k < p := by omega
      have hkp : k ≤ p := Nat.le_of_lt hkl
      have hb1 : wr.drew.heap[g]? = some (gotBlk v) := HBK.out
      have e0 : wr.drew.cell? ⟨g, 0, none⟩ = some v := (blk_cell HBK.out 0).trans rfl
      have e1 : wr.drew.frozen? ⟨g, 0, none⟩ = false := blk_frozen HBK.out 0
      go_wp2_with (first | (go_at_call 53; (with_reducible refine (Lt.out _).mono ?_); rintro e w' ⟨rfl, rfl⟩) | (go_at_call 54; (with_reducible refine (Dg.out _).mono ?_); rintro e w' ⟨rfl, rfl⟩) | (go_at_call 55; (with_reducible refine (Ln.out _).mono ?_); rintro e w' ⟨rfl, rfl⟩))
      go_region_law (rw [← World.alloc_drew]; refine Kd.R_append_step kTok (w0 := wr) (g + 1) ?hw (.tmp 122) (.tmp 129) 23 36 (.agg #[.int .i64 0, .string ⟨#[]⟩, .int .i64 0]) 32 ?ho Tryd.underlying23 infoTok rfl (by decide) (by decide) v acc ⟨2, s.extract k p, k⟩ [.int .i64 2, .string (s.extract k p), .int .i64 k] (fun _ => True) (fun _ => False) ?a00 ?a0 (kTok_mkM _ _ _ _) (fun _ hk => hk.elim) (fun _ _ => trivial) ?a1 ?a2 ?a3 ?a4 ?_; (case ho => rfl); (case hw => first | rfl | (simp [Region.wanted]; done)); (case a00 => first | (go_simp; done) | (go_simp; rfl)); (case a0 => first | (go_simp; done) | (go_simp; rfl)); (case a1 => exact Kd.R_drew HR.out); (case a2 => exact (Below.refl _ _).drew); (case a3 => show g + 1 ≤ wr.heap.size; omega); (case a4 => omega); intro v1 w2 hO2 hB2 hg2 _; obtain ⟨A2, c2, rfl⟩ := Kd.R_slice hO2; rw [show (acc ++ [(⟨2, s.extract k p, k⟩ : Tok)]).length = acc.length + 1 from by simp] at hO2; have hblk2 := blk_grown hb1 hg2 (Kd.R_ne (Kd.R_drew HR.out) hb1 (by decide)); have HO2 := Lib.hid hO2; have HB2 := Lib.hid hB2; have HBK2 := Lib.hid hblk2; have y0 : w2.cell? ⟨g, 0, none⟩ = some v := (blk_cell hblk2 0).trans rfl; have y1 := blk_frozen hblk2 0; clear hO2 hB2 hg2 hblk2)
      all_goals (
        go_wp2_with fail
        go_roundw
        case rel => refine ⟨_, _, _, _, _, _, _, _, _, _, _, _, _, _, _, _, _, _, _, _, _, _, _, _, _, _, _, _, _, _, _, _, _, _, _, _, _, _, _, _, _, _, _, _, _, _, _, _, _, _, _, _, _, _, _, _, _, _, _, _, _, _, _, _, _, _, _, _, _, _, _, _, _, _, _, _, _, _, _, _, _, _, _, _, _, _, _, _, _, _, _, _, _, _, _, _, _, _, _, _, _, _, _, _, _, _, _, _, _, _, _, _, _, _, _, _, _, _, _, _, _, _, _, _, _, _, _, _, _, _, _, _, _, _, _, _, _, _, _, _, _, _, _, _, _, _, _, _, _, _, _, _, _, _, _, _, _, _, _, _, _, _, _, _, _, _, _, _, _, _, _, _, _, _, _, _, _, _, _, _, _, _, _, _, _, _, _, _, _, _, _, _, _, _, _, _, _, _, _, _, _, _, _, _, _, _, _, _, _, _, _, _, _, _, _, _, _, _, _, _, _, _, _, _, _, _, _, _, _, _, _, _, _, _, ?_, rfl⟩; exact ⟨p, by go_num, f, _, _, hnle, by omega, by simp; omega, HE.out, blk_put HBK2.out 0 _ rfl, Kd.R_set HO2.out HBK2.out (by decide) _ _, (HB.out.trans (HB2.out.mono (by omega))).setCell (by show g ≤ g; omega) _⟩
        case measure => simp [intOf]; omega)
end Go.Proofs.YtcajdkncohcaeaaDoor
