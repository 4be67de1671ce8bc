import Derived.Test.YtcajdkncohcaeaaDoorDmE
import Derived.Sort.Grow
import Derived.Lib.ItoaLen
import Derived.Lib.SmallJoins
import Derived.Deep.RegionHeld3
namespace Go.Proofs.YtcajdkncohcaeaaDoor
set_option linter.unusedVariables false
set_option linter.unusedSimpArgs false
open Go.RowKit Go.Sort Go.Proofs.YtcajdkncohcaeaaDoorW.PrintWords

/-! ### the text of a dimension -/
theorem dm_below_grow {w w' : World} (h : ∃ k os, w' = grow (w.drewN k) os) : Below w.heap.size w w' := by
  obtain ⟨q, os, rfl⟩ := h
  exact ⟨rfl, rfl, rfl, by simp [grow], fun i hi => by
    show ((w.drewN q).heap ++ os)[i]? = _
    rw [Array.getElem?_append_left (by show i < w.heap.size; omega)]
    rfl⟩
def nameB : Nat → ByteArray
  | 0 => ⟨#[109]⟩
  | 1 => ⟨#[107, 103]⟩
  | 2 => ⟨#[115]⟩
  | 3 => ⟨#[65]⟩
  | 4 => ⟨#[75]⟩
  | 5 => ⟨#[109, 111, 108]⟩
  | _ => ⟨#[99, 100]⟩
theorem nameB_size (k : Nat) : (nameB k).size ≤ 3 := by
  unfold nameB; split <;> decide
def itoaB (n : Int) : ByteArray := ⟨(Lib.itoa n).toArray⟩
def partB (k : Nat) (n : Int) : ByteArray := if n = 1 then nameB k else nameB k ++ ⟨#[94]⟩ ++ itoaB n
def partsL (a : Nat → Int) : List Nat → List ByteArray
  | [] => []
  | i :: l => if a i = 0 then partsL a l else partB i (a i) :: partsL a l
def textParts (a : Nat → Int) : List ByteArray := partsL a [0, 1, 2, 3, 4, 5, 6]
def textD (a : Nat → Int) : ByteArray := if textParts a = [] then ⟨#[49]⟩ else ⟨(Lib.join ((textParts a).map (·.data.toList)) [32]).toArray⟩
theorem itoaB_size (n : Int) (h : -9223372036854775808 ≤ n ∧ n ≤ 9223372036854775807) : (itoaB n).size ≤ 21 := by
  have := Lib.itoa_length_le n h.1 h.2
  rw [Lib.size_eq]; simpa [itoaB] using this
/-- what the laid variables hold -/
structure DimGlob (w : World) : Prop where
  names : ∀ k : Nat, k < 7 → w.cell? ⟨1, k, none⟩ = some (.string (nameB k))
  tab : Lib.TabIs Tryd.prog w "internal/strconv.uint64pow10" .u64 Lib.pow10Tab
theorem gPow10 : Tryd.prog.globalNamed "internal/strconv.uint64pow10" = some 5 := by kernel_rfl
theorem DimGlob.below {w w' : World} (hG : DimGlob w) (h : Below w.heap.size w w') : DimGlob w' :=
  ⟨fun k hk => cell_below h (hG.names k hk), Joins.tab_stays gPow10 hG.tab h (Nat.le_refl _)⟩
theorem dm_index (a : Nat → Int) (k : Nat) (hk : k < 7) (w : World) :
    (Instr.index 65 (.agg #[.int .i64 (a 0), .int .i64 (a 1), .int .i64 (a 2), .int .i64 (a 3), .int .i64 (a 4), .int .i64 (a 5), .int .i64 (a 6)]) (.int .i64 k)).run Tryd.prog w = .ok (.int .i64 (a k)) w := by
  rcases below7 hk with h | h | h | h | h | h | h <;> subst h <;> kernel_rfl
theorem dm_itoa (n : Int) (h : -9223372036854775808 ≤ n ∧ n ≤ 9223372036854775807) (w : World) (hG : DimGlob w) :
    Calls Tryd.prog 67 #[.int .i64 n] w fun e w' => e = .returned (.string (itoaB n)) ∧ Below w.heap.size w w' :=
  (Tryd.strconv_Itoa n h.1 h.2 w hG.tab).mono fun _ _ h => ⟨h.1, dm_below_grow h.2⟩
theorem partsL_drop (a : Nat → Int) (k : Nat) (hk : k < 7) : partsL a (([0, 1, 2, 3, 4, 5, 6] : List Nat).drop k) = if a k = 0 then partsL a (([0, 1, 2, 3, 4, 5, 6] : List Nat).drop (k + 1)) else partB k (a k) :: partsL a (([0, 1, 2, 3, 4, 5, 6] : List Nat).drop (k + 1)) := by
  rcases below7 hk with h | h | h | h | h | h | h <;> subst h <;> rfl
theorem infoStr : (Tryd.prog.info? 9).map (fun i => (i.zero, i.size, i.bytes)) = some (some (.string ⟨#[]⟩), 1, 16) := by kernel_rfl

theorem strRow {w : World} {base : Nat} {ok : Nat → Prop} {v : Value} {xs : List ByteArray} (h : Kd.R Kd.string 9 w base ok v xs) (hne : xs ≠ []) :
    ∃ g c, v = .slice (some ⟨g, 0, none⟩) xs.length c ∧ xs.length ≤ c ∧ g < w.heap.size ∧ ∀ (j : Nat) x, xs[j]? = some x → w.cell? ⟨g, 0 + j, none⟩ = some (.string x) := by
  obtain ⟨A, c, hv, hc, hC⟩ := Kd.R_reads h
  obtain ⟨inner, ho⟩ := Kd.R_own h
  rcases ho.2 with ⟨h1, _⟩ | ⟨g, cap, cur, h1, _⟩
  · rw [h1] at hv
    injection hv with _ h2
    exact absurd (List.length_eq_zero_iff.1 h2.symm) hne
  · have hlt := Kd.R_lt h g (by rw [h1]; rfl)
    rw [h1] at hv
    injection hv with h2 h3 h4
    subst h2
    refine ⟨g, c, by rw [h1, h4], hc, hlt, ?_⟩
    intro j x hj
    have hjl : j < xs.length := (List.getElem?_eq_some_iff.1 hj).1
    obtain ⟨ad, c', e, _, hK, hcell⟩ := Kd.C_get hC ⟨#[]⟩ j (by omega) (by omega)
    injection e with e
    subst e
    have hK' : c' = [.string (xs.getD (j : Int).toNat ⟨#[]⟩)] := hK
    subst hK'
    have := hcell 0 _ rfl
    have hx : xs.getD (j : Int).toNat ⟨#[]⟩ = x := by rw [Int.toNat_natCast, List.getD_eq_getElem?_getD, hj]; rfl
    rw [hx] at this
    by_cases hj0 : j = 0
    · subst hj0; simpa [Addr.add, Kd.string, Kd.scalar] using this
    · simpa [Addr.add, Kd.string, Kd.scalar, hj0] using this
theorem join_le (sep : List UInt8) (hs : sep.length ≤ 1) : ∀ l : List (List UInt8), (∀ x ∈ l, x.length ≤ 25) → (Lib.join l sep).length ≤ 26 * l.length
  | [], _ => Nat.zero_le _
  | [x], h => by have := h x (by simp); rw [Lib.join_one]; simp; omega
  | x :: y :: l, h => by
    have ih := join_le sep hs (y :: l) (fun z hz => h z (List.mem_cons_of_mem _ hz))
    have hx := h x (by simp)
    have e : Lib.join (x :: y :: l) sep = x ++ (sep ++ Lib.join (y :: l) sep) := by simp [Lib.join, List.intercalate]
    rw [e, List.length_append, List.length_append]
    simp only [List.length_cons] at ih ⊢
    omega
theorem partB_size (k : Nat) (n : Int) (h : -9223372036854775808 ≤ n ∧ n ≤ 9223372036854775807) : (partB k n).size ≤ 25 := by
  have h1 := nameB_size k
  have h2 := itoaB_size n h
  unfold partB
  split
  · omega
  · rw [ByteArray.size_append, ByteArray.size_append]
    have : (⟨#[94]⟩ : ByteArray).size = 1 := rfl
    omega
theorem partsL_size (a : Nat → Int) (ha : ∀ j, j < 7 → -9223372036854775808 ≤ a j ∧ a j ≤ 9223372036854775807) : ∀ l : List Nat, (∀ i ∈ l, i < 7) → (∀ x ∈ partsL a l, x.size ≤ 25) ∧ (partsL a l).length ≤ l.length
  | [], _ => ⟨fun x h => by simp [partsL] at h, Nat.le_refl _⟩
  | i :: l, h => by
    obtain ⟨i1, i2⟩ := partsL_size a ha l (fun j hj => h j (List.mem_cons_of_mem _ hj))
    unfold partsL
    split
    · exact ⟨i1, by simp only [List.length_cons]; omega⟩
    · refine ⟨fun x hx => ?_, by simp only [List.length_cons]; omega⟩
      rcases List.mem_cons.1 hx with rfl | hx
      · exact partB_size i (a i) (ha i (h i (by simp)))
      · exact i1 x hx

set_option maxRecDepth 20000 in
set_option maxHeartbeats 4000000 in
theorem dtext_any (a : Nat → Int) (w : World) (ha : ∀ j, j < 7 → -9223372036854775808 ≤ a j ∧ a j ≤ 9223372036854775807) (hG : DimGlob w) :
    Calls Tryd.prog 48 #[dv a] w fun e w' => e = .returned (.string (textD a)) ∧ Below w.heap.size w w' := by
  obtain ⟨tp, htp⟩ : ∃ tp, textParts a = tp := ⟨_, rfl⟩
  have H0 : Hid ([] ++ partsL a (([0, 1, 2, 3, 4, 5, 6] : List Nat).drop 0) = tp) := Lib.hid (by rw [← htp]; rfl)
  have HT : Hid (textD a = if tp = [] then ⟨#[49]⟩ else ⟨(Lib.join (tp.map (·.data.toList)) [32]).toArray⟩) := Lib.hid (by rw [textD, htp])
  have HSZ : Hid ((∀ x ∈ tp, x.size ≤ 25) ∧ tp.length ≤ 7) := Lib.hid (by rw [← htp]; exact partsL_size a ha _ (by decide))
  have HAB := Lib.hid ha
  clear htp ha
  have HB0 : Hid (Below w.heap.size w (w.alloc (.cells #[.int .i64 (a 0), .int .i64 (a 1), .int .i64 (a 2), .int .i64 (a 3), .int .i64 (a 4), .int .i64 (a 5), .int .i64 (a 6)] 65))) := Lib.hid (bl_alloc (Below.refl _ _) _)
  unfold dv
  go_enter Tryd.func48, Tryd.ntmps48
  go_wp2_with fail
  generalize w.alloc (.cells #[.int .i64 (a 0), .int .i64 (a 1), .int .i64 (a 2), .int .i64 (a 3), .int .i64 (a 4), .int .i64 (a 5), .int .i64 (a 6)] 65) = w0 at HB0 ⊢
  have hG0 := hG.below HB0.out
  go_loopw [3, 7] (fun v i wr => ∃ (k : Nat) (acc : List ByteArray), i = .int .i64 k ∧ k ≤ 7 ∧ acc.length ≤ k ∧ Hid (acc ++ partsL a (([0, 1, 2, 3, 4, 5, 6] : List Nat).drop k) = tp) ∧ Hid (Kd.R Kd.string 9 wr w0.heap.size (fun _ => True) v acc) ∧ Hid (Below w0.heap.size w0 wr)) (fun _ i _ => 7 - (intOf i).toNat)
  case atStart => exact ⟨0, [], rfl, Nat.zero_le _, Nat.zero_le _, H0, Lib.hid (Kd.R_nil _ _ _ _ _), Lib.hid (Below.refl _ _)⟩
  case round =>
    obtain ⟨k, acc, rfl, hk, hl, HA, HO, HB⟩ := hrel
    have hGr : DimGlob wr := hG0.below HB.out
    have hsz := HB.out.size
    by_cases hlt : k < 7
    · have ix := dm_index a k hlt
      have hnk := hGr.names k hlt
      have hstep := partsL_drop a k hlt
      have hab := HAB.out k hlt
      obtain ⟨n, hn⟩ : ∃ n, a k = n := ⟨_, rfl⟩
      rw [hn] at ix hstep hab
      by_cases h0 : n = 0
      · have HS : Hid (acc ++ partsL a (([0, 1, 2, 3, 4, 5, 6] : List Nat).drop (k + 1)) = tp) := Lib.hid (by rw [← HA.out, hstep, if_pos h0])
        subst h0
        clear hstep HA
        go_wp2_with fail
        go_roundw
        case rel => exact ⟨k + 1, acc, by go_num, by omega, by omega, HS, HO, HB⟩
        case measure => simp [intOf]; omega
      · have HS : Hid ((acc ++ [partB k n]) ++ partsL a (([0, 1, 2, 3, 4, 5, 6] : List Nat).drop (k + 1)) = tp) := Lib.hid (by rw [← HA.out, hstep, if_neg h0]; simp)
        have e0 : (n == 0) = false := by simpa using h0
        by_cases h1 : n = 1
        · subst h1
          have hp : partB k 1 = nameB k := by rw [partB, if_pos rfl]
          rw [hp] at HS
          clear hstep HA hp h0
          have HO1 := Lib.hid (R_lt HO.out)
          go_wp2_with (at_builtin; refine Kd.R_append Kd.string (w0 := w0) w0.heap.size rfl (.tmp 26) (.tmp 30) 84 9 (.string ⟨#[]⟩) 16 rfl Tryd.underlying84 infoStr rfl (by decide) (by decide) u3 acc (nameB k) [.string (nameB k)] (fun _ => True) (fun _ => False) rfl ?a0 rfl (fun _ hk => hk.elim) (fun _ _ => trivial) ?a1 ?a2 ?a3 ?a4 ?_; (case a0 => first | (go_simp; done) | (go_simp; rfl)); (case a1 => exact HO.out); (case a2 => exact HB.out); (case a3 => omega); (case a4 => omega); intro v1 w2 hO2 hB2 hg2 _; have HO2 := Lib.hid hO2; have HB2 := Lib.hid hB2; clear hO2 hB2 hg2)
          go_roundw
          case rel => exact ⟨k + 1, acc ++ [nameB k], by go_num, by omega, by simp; omega, HS, HO2, HB2⟩
          case measure => simp [intOf]; omega
        · have e1 : (n == 1) = false := by simpa using h1
          obtain ⟨nb, hnb⟩ : ∃ nb, nameB k = nb := ⟨_, rfl⟩
          obtain ⟨it, hit⟩ : ∃ it, itoaB n = it := ⟨_, rfl⟩
          have hnbz : nb.size ≤ 3 := by rw [← hnb]; exact nameB_size k
          have hitz : it.size ≤ 21 := by rw [← hit]; exact itoaB_size n hab
          obtain ⟨t1, ht1⟩ : ∃ t1, nb ++ (⟨#[94]⟩ : ByteArray) = t1 := ⟨_, rfl⟩
          have z3 : t1.size = nb.size + 1 := by rw [← ht1, ByteArray.size_append]; rfl
          obtain ⟨t2, ht2⟩ : ∃ t2, t1 ++ it = t2 := ⟨_, rfl⟩
          have hp : partB k n = t2 := by rw [partB, if_neg h1, hnb, hit, ht1, ht2]
          have n1 : ¬ 9223372036854775807 < nb.size + 1 := by omega
          have n2 : ¬ 9223372036854775807 < nb.size + 1 + it.size := by omega
          have n3 : ¬ (9223372036854775807 : Int) < (nb.size : Int) + 1 := by omega
          have n4 : ¬ (9223372036854775807 : Int) < (nb.size : Int) + 1 + (it.size : Int) := by omega
          have n5 : (⟨#[94]⟩ : ByteArray).size = 1 := rfl
          rw [hp] at HS
          have hIT : ∀ w' : World, DimGlob w' → Calls Tryd.prog 67 #[.int .i64 n] w' fun e w'' => e = .returned (.string it) ∧ Below w'.heap.size w' w'' := fun w' hG => by rw [← hit]; exact dm_itoa n hab w' hG
          have HIT := Lib.hid hIT
          have HK : Hid (∀ w' : World, Below w0.heap.size w0 w' → w'.cell? ⟨1, k, none⟩ = some (.string nb) ∧ Below w0.heap.size w0 w') := Lib.hid (fun w' h => ⟨by rw [← hnb]; exact (hG0.below h).names k hlt, h⟩)
          rw [hnb] at hnk
          clear hstep HA hp h0 h1 hIT hnb hit
          go_wp2_with fail
          go_region_held3 (fun w' => w'.cell? ⟨1, k, none⟩ = some (.string nb) ∧ Below w0.heap.size w0 w') (first | assumption | exact HK.out _ HB.out.drew | exact HK.out _ (by assumption) | exact HK.out _ (Below.alloc (by assumption) (by assumption) _)) (first | (go_at_call 67; refine (HIT.out _ (hG0.below HB.out.drew)).mono ?_; rintro e w1 ⟨rfl, hb1⟩; have hB1 : Below w0.heap.size w0 w1 := HB.out.drew.trans (hb1.mono hsz); have hz1 : w0.heap.size ≤ w1.heap.size := hB1.size; have HO1 := Lib.hid (Kd.R_below (Kd.R_drew HO.out) hb1)) | (refine Kd.R_append_step Kd.string (w0 := w0) w0.heap.size ?hw (.tmp 12) (.tmp 20) 84 9 (.string ⟨#[]⟩) 16 ?ho Tryd.underlying84 infoStr rfl (by decide) (by decide) u3 acc t2 [.string t2] (fun k => True) (fun _ => False) ?a00 ?a0 rfl (fun _ hk => hk.elim) (fun _ _ => trivial) ?a1 ?a2 ?a3 ?a4 ?_; (case ho => rfl); (case hw => first | rfl | (simp [Region.wanted]; done)); (case a00 => first | (go_simp; done) | (go_simp; rfl)); (case a0 => first | (go_simp; done) | (go_simp; rfl)); (case a1 => exact Kd.R_mono HO1.out (fun _ _ => trivial)); (case a2 => exact hB1); (case a3 => exact hz1); (case a4 => omega); intro v1 w2 hO2 hB2 hg2 _; have HO2 := Lib.hid hO2; clear hO2 hg2))
          go_wp2_with fail
          go_roundw
          case rel => exact ⟨k + 1, acc ++ [t2], by go_num, by omega, by simp; omega, HS, HO2, Lib.hid hB2⟩
          case measure => simp [intOf]; omega
    · obtain rfl : k = 7 := by omega
      have hacc : acc = tp := by rw [← HA.out]; simp [partsL]
      subst hacc
      clear HA
      by_cases htp : acc = []
      · subst htp
        have HE : Hid (textD a = ⟨#[49]⟩) := Lib.hid (by rw [HT.out, if_pos rfl])
        obtain ⟨A, c, rfl⟩ := Kd.R_slice HO.out
        have HB2 := Lib.hid (HB0.out.trans (HB.out.mono HB0.out.size))
        clear HT
        go_wp2_with fail
        go_ret
        exact ⟨by rw [HE.out]; rfl, HB2.out⟩
      · have HE : Hid (textD a = ⟨(Lib.join (acc.map (·.data.toList)) [32]).toArray⟩) := Lib.hid (by rw [HT.out, if_neg htp])
        obtain ⟨g, c, rfl, hc, hgl, hcells⟩ := strRow HO.out htp
        have hjl := join_le [32] (by decide) (acc.map (·.data.toList)) (by
          intro x hx
          obtain ⟨y, hy, rfl⟩ := List.mem_map.1 hx
          have := HSZ.out.1 y hy
          rwa [Lib.size_eq] at this)
        rw [List.length_map] at hjl
        have hl7 := HSZ.out.2
        have HJ := Lib.hid (Tryd.strings_Join g 0 c acc ⟨#[32]⟩ wr hcells hgl (by omega) hc (by
          show (Lib.join (acc.map (·.data.toList)) [32]).length ≤ _
          omega))
        have HB2 := Lib.hid (HB0.out.trans (HB.out.mono HB0.out.size))
        obtain ⟨n, hn⟩ : ∃ n, acc.length = n := ⟨_, rfl⟩
        have hn0 : ((n : Int) == 0) = false := by
          have : acc.length ≠ 0 := fun h => htp (List.length_eq_zero_iff.1 h)
          simp; omega
        have hn1 : (n == 0) = false := by simp at hn0 ⊢; omega
        rw [hn] at HJ ⊢
        clear HT hcells hjl htp hn
        go_wp2_with fail
        refine HJ.out.mono ?_
        rintro e w3 ⟨rfl, hb3⟩
        have HB3 := Lib.hid (HB2.out.trans (hb3.mono HB2.out.size))
        clear hb3
        go_wp2_with fail
        go_ret
        exact ⟨by rw [HE.out]; rfl, HB3.out⟩
end Go.Proofs.YtcajdkncohcaeaaDoor
