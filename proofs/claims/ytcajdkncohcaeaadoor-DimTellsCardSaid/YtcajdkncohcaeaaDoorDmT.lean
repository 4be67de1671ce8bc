import Derived.Test.YtcajdkncohcaeaaDoorRtC
import Derived.Test.YtcajdkncohcaeaaDoorDmS
import Derived.Test.YtcajdkncohcaeaaDoorDmG
import Derived.Test.YtcajdkncohcaeaaDoorDmH
import Derived.Test.YtcajdkncohcaeaaDoorWInvWords
import Derived.Laws.BitsAllLaws
import Derived.Lib.ItoaMem
namespace Go.Proofs.YtcajdkncohcaeaaDoor
set_option linter.unusedVariables false
set_option linter.unusedSimpArgs false
open Go.RowKit Go.Proofs.YtcajdkncohcaeaaDoorW.PrintWords

/-! ### the reference's whole numbers of an int64, plainly: two limbs, ten by ten -/
namespace Rt
def limbs (m : Nat) : List Int := if m = 0 then [] else if m < 4294967296 then [(m : Int)] else [((m % 4294967296 : Nat) : Int), ((m / 4294967296 : Nat) : Int)]
theorem limbs_zero : limbs 0 = [] := rfl
theorem limbs_len (m : Nat) : (limbs m).length ≤ 2 := by unfold limbs; split; (simp); (split <;> simp)
theorem limbs_pos (m : Nat) (h : 0 < m) : 0 < (limbs m).length := by unfold limbs; rw [if_neg (by omega)]; split <;> simp
theorem trim_nil (k : Nat) : steelyardref01_Trim.f (k + 1) [] = some [] := by
  simp [steelyardref01_Trim.f, steelyardref01_Trim.l0]
theorem trim_one (k : Nat) (a : Int) (h : a ≠ 0) : steelyardref01_Trim.f (k + 1) [a] = some [a] := by
  simp [steelyardref01_Trim.f, steelyardref01_Trim.l0, wrap64, rd, h]
theorem trim_one0 (k : Nat) : steelyardref01_Trim.f (k + 2) [0] = some [] := by
  simp [steelyardref01_Trim.f, steelyardref01_Trim.l0, wrap64, rd]
theorem trim_two (k : Nat) (a b : Int) (h : b ≠ 0) : steelyardref01_Trim.f (k + 1) [a, b] = some [a, b] := by
  simp [steelyardref01_Trim.f, steelyardref01_Trim.l0, wrap64, rd, h]
theorem trim_two0 (k : Nat) (a : Int) (h : a ≠ 0) : steelyardref01_Trim.f (k + 2) [a, 0] = some [a] := by
  simp [steelyardref01_Trim.f, steelyardref01_Trim.l0, wrap64, rd, h]
theorem trim_two00 (k : Nat) : steelyardref01_Trim.f (k + 3) [0, 0] = some [] := by
  simp [steelyardref01_Trim.f, steelyardref01_Trim.l0, wrap64, rd]
/-- Two limbs, trimmed, are a number's. -/
theorem trim_pair (k lo hi : Nat) (hl : lo < 4294967296) : steelyardref01_Trim.f (k + 3) [(lo : Int), (hi : Int)] = some (limbs (hi * 4294967296 + lo)) := by
  unfold limbs
  by_cases h0 : hi = 0
  · subst h0
    by_cases h1 : lo = 0
    · subst h1; exact trim_two00 k
    · rw [if_neg (by omega), if_pos (by omega)]
      have := trim_two0 (k + 1) (lo : Int) (by omega)
      simpa using this
  · rw [if_neg (by omega), if_neg (by omega), trim_two (k + 2) _ _ (by omega)]
    have e1 : (hi * 4294967296 + lo) % 4294967296 = lo := by omega
    have e2 : (hi * 4294967296 + lo) / 4294967296 = hi := by omega
    rw [e1, e2]
theorem trim_limbs (k m : Nat) : steelyardref01_Trim.f (k + 3) (limbs m) = some (limbs m) := by
  unfold limbs
  split
  · exact trim_nil _
  · split
    · exact trim_one _ _ (by omega)
    · exact trim_two _ _ _ (by omega)
theorem or_high (r lo : Nat) (hr : r < 4294967296) (hl : lo < 4294967296) : Go.bits .or .u64 (IntKind.u64.wrap ((r : Int) * 4294967296)) (IntKind.u64.wrap (lo : Int)) = ((r * 4294967296 + lo : Nat) : Int) := by
  have w1 : IntKind.u64.wrap ((r : Int) * 4294967296) = ((r * 4294967296 : Nat) : Int) := by simp only [IntKind.wrap, IntKind.bits, IntKind.signed]; simp; omega
  have w2 : IntKind.u64.wrap (lo : Int) = (lo : Int) := by simp only [IntKind.wrap, IntKind.bits, IntKind.signed]; simp; omega
  rw [w1, w2, u64_or_nat _ _ (by omega) (by omega)]
  congr 1
  have := Nat.shiftLeft_add_eq_or_of_lt (i := 32) (by omega : lo < 2 ^ 32) r
  rw [Nat.shiftLeft_eq] at this
  simpa using this.symm
theorem ten_div (r lo : Nat) (hr : r < 10) (hl : lo < 4294967296) : IntKind.u64.wrap (Int.tdiv (Go.bits .or .u64 (IntKind.u64.wrap ((r : Int) * 4294967296)) (IntKind.u64.wrap (lo : Int))) 10) % 4294967296 = (((r * 4294967296 + lo) / 10 : Nat) : Int) := by
  rw [or_high r lo (by omega) hl, Int.tdiv_eq_ediv_of_nonneg (by omega)]
  simp only [IntKind.wrap, IntKind.bits, IntKind.signed]
  simp
  omega
theorem ten_mod (r lo : Nat) (hr : r < 10) (hl : lo < 4294967296) : Int.tmod (Go.bits .or .u64 (IntKind.u64.wrap ((r : Int) * 4294967296)) (IntKind.u64.wrap (lo : Int))) 10 = (((r * 4294967296 + lo) % 10 : Nat) : Int) := by
  rw [or_high r lo (by omega) hl, Int.tmod_eq_emod_of_nonneg (by omega)]
  omega
theorem ten_step (k : Nat) (x0 x4 : List Int) (r lo i : Nat) (hi : i < x0.length) (h4 : i < x4.length) (hs : i < 2) (hx : rd x0 (i : Int) = (lo : Int)) (hr : r < 10) (hl : lo < 4294967296) :
    steelyardref05_ten.l0 (k + 1) x0 x4 (r : Int) (i : Int) = steelyardref05_ten.l0 k x0 (x4.set i (((r * 4294967296 + lo) / 10 : Nat) : Int)) (((r * 4294967296 + lo) % 10 : Nat) : Int) ((i : Int) - 1) := by
  have hw : wrap64 ((i : Int) - 1) = (i : Int) - 1 := by unfold wrap64; omega
  rw [steelyardref05_ten.l0, if_pos (by omega), if_pos (by omega), if_pos (by omega), if_pos (by omega), hx, ten_div r lo hr hl, ten_mod r lo hr hl, hw, Int.toNat_natCast]
theorem ten_end (k : Nat) (x0 x4 : List Int) (x5 : Int) : steelyardref05_ten.l0 (k + 1) x0 x4 x5 (-1) = (steelyardref01_Trim.f k x4).bind fun t => some (t, x5 % 256) := by
  rw [steelyardref05_ten.l0, if_neg (by omega)]
theorem ten_limbs (k m : Nat) (h0 : 0 < m) (h : m < 18446744073709551616) : steelyardref05_ten.f (k + 6) (limbs m) = some (limbs (m / 10), ((m % 10 : Nat) : Int)) := by
  by_cases h1 : m < 4294967296
  · have e : limbs m = [(m : Int)] := by unfold limbs; rw [if_neg (by omega), if_pos h1]
    have s1 := ten_step (k + 5) [(m : Int)] [(m : Int)] 0 m 0 (by simp) (by simp) (by omega) (by simp [rd]) (by omega) h1
    have s2 := ten_end (k + 4) [(m : Int)] [((m / 10 : Nat) : Int)] ((m % 10 : Nat) : Int)
    have s3 := trim_pair (k + 1) (m / 10) 0 (by omega)
    have s4 := trim_limbs (k + 1) (m / 10)
    have e3 : steelyardref01_Trim.f (k + 4) [((m / 10 : Nat) : Int)] = some (limbs (m / 10)) := by
      by_cases hz : m / 10 = 0
      · rw [hz]; exact trim_one0 _
      · rw [trim_one _ _ (by omega)]; unfold limbs; rw [if_neg hz, if_pos (by omega)]
    rw [e, steelyardref05_ten.f, Option.bind_some, if_pos (by simp)]
    simp only [Nat.zero_mul, Nat.zero_add, List.set_cons_zero] at s1
    have w0 : wrap64 (([(m : Int)].length : Int) - 1) = ((0 : Nat) : Int) := by simp [wrap64]
    have w1 : ((0 : Nat) : Int) - 1 = -1 := rfl
    rw [w1] at s1
    rw [w0, List.nil_append]
    refine s1.trans (s2.trans ?_)
    rw [e3, Option.bind_some]
    congr 2
    omega
  · have e : limbs m = [((m % 4294967296 : Nat) : Int), ((m / 4294967296 : Nat) : Int)] := by unfold limbs; rw [if_neg (by omega), if_neg h1]
    generalize hlo : m % 4294967296 = lo at *
    generalize hhi : m / 4294967296 = hi at *
    have s1 := ten_step (k + 5) [(lo : Int), (hi : Int)] [(lo : Int), (hi : Int)] 0 hi 1 (by simp) (by simp) (by omega) (by simp [rd]) (by omega) (by omega)
    simp only [Nat.zero_mul, Nat.zero_add, List.set_cons_succ, List.set_cons_zero] at s1
    have s2 := ten_step (k + 4) [(lo : Int), (hi : Int)] [(lo : Int), ((hi / 10 : Nat) : Int)] (hi % 10) lo 0 (by simp) (by simp) (by omega) (by simp [rd]) (by omega) (by omega)
    simp only [List.set_cons_zero] at s2
    generalize hq : (hi % 10 * 4294967296 + lo) / 10 = q at *
    have s3 := ten_end (k + 3) [(lo : Int), (hi : Int)] [(q : Int), ((hi / 10 : Nat) : Int)] (((hi % 10 * 4294967296 + lo) % 10 : Nat) : Int)
    rw [e, steelyardref05_ten.f, Option.bind_some, if_pos (by simp)]
    have w0 : wrap64 (([(lo : Int), (hi : Int)].length : Int) - 1) = ((1 : Nat) : Int) := by simp [wrap64]
    have w1 : ((1 : Nat) : Int) - 1 = ((0 : Nat) : Int) := rfl
    have w2 : ((0 : Nat) : Int) - 1 = -1 := rfl
    rw [w1] at s1
    rw [w2] at s2
    rw [w0, List.nil_append]
    refine s1.trans (s2.trans (s3.trans ?_))
    rw [trim_pair k q (hi / 10) (by omega), Option.bind_some]
    have g1 : hi / 10 * 4294967296 + q = m / 10 := by omega
    rw [g1]
    congr 2
    omega
/-- The digits, the last ahead. -/
def revDigits (m : Nat) : List Int := if h : m = 0 then [] else (48 + ((m % 10 : Nat) : Int)) :: revDigits (m / 10)
termination_by m
decreasing_by omega
theorem revDigits_zero : revDigits 0 = [] := by rw [revDigits, dif_pos rfl]
theorem revDigits_pos (m : Nat) (h : 0 < m) : revDigits m = (48 + ((m % 10 : Nat) : Int)) :: revDigits (m / 10) := by rw [revDigits, dif_neg (by omega)]
theorem revDigits_len : ∀ (j m : Nat), m < 10 ^ j → (revDigits m).length ≤ j
  | 0, m, h => by
    have : m = 0 := by simpa using h
    subst this
    rw [revDigits_zero]
    simp
  | j + 1, m, h => by
    by_cases h0 : m = 0
    · subst h0; rw [revDigits_zero]; simp
    · rw [revDigits_pos m (by omega)]
      have := revDigits_len j (m / 10) (by rw [Nat.pow_succ] at h; omega)
      simp
      exact this
theorem text_round (k : Nat) (acc : List Int) (m : Nat) (h0 : 0 < m) (h : m < 18446744073709551616) (ha : acc.length < 100) :
    steelyardref05_Text.l0 (k + 7) acc (limbs m) = steelyardref05_Text.l0 (k + 6) (acc ++ [48 + ((m % 10 : Nat) : Int)]) (limbs (m / 10)) := by
  have hl := limbs_pos m h0
  rw [steelyardref05_Text.l0, if_pos (by omega), ten_limbs k m h0 h, Option.bind_some, if_pos (by omega)]
  have e : (48 + ((m % 10 : Nat) : Int)) % 256 = 48 + ((m % 10 : Nat) : Int) := by omega
  simp only [e]
theorem text_rounds : ∀ (j k : Nat) (acc : List Int) (m : Nat), m < 10 ^ j → m < 18446744073709551616 → acc.length + j ≤ 100 →
    ∃ k', k + 6 ≤ k' ∧ steelyardref05_Text.l0 (k + j + 7) acc (limbs m) = steelyardref05_Text.l0 k' (acc ++ revDigits m) []
  | 0, k, acc, m, h, _, _ => by
    have : m = 0 := by simpa using h
    subst this
    exact ⟨k + 7, by omega, by rw [revDigits_zero, List.append_nil]; rfl⟩
  | j + 1, k, acc, m, h, h2, h3 => by
    by_cases h0 : m = 0
    · subst h0
      exact ⟨k + (j + 1) + 7, by omega, by rw [revDigits_zero, List.append_nil]; rfl⟩
    · obtain ⟨k', h4, h5⟩ := text_rounds j k (acc ++ [48 + ((m % 10 : Nat) : Int)]) (m / 10) (by rw [Nat.pow_succ] at h; omega) (by omega) (by simp; omega)
      refine ⟨k', h4, ?_⟩
      have := text_round (k + (j + 1)) acc m (by omega) h2 (by omega)
      rw [this, revDigits_pos m (by omega)]
      have e : k + (j + 1) + 6 = k + j + 7 := by omega
      rw [e, h5, List.append_assoc]
      rfl
/-- The loop that turns a row about. -/
theorem turn_row : ∀ (n k : Nat) (P M S : List Int), M.length ≤ n → n < k → P.length = S.length → P.length + M.length + S.length < 1000 →
    steelyardref05_Text.l1 k (P ++ M ++ S) (P.length : Int) ((P.length : Int) + (M.length : Int) - 1) = some (strOfNums (P ++ M.reverse ++ S))
  | n, 0, P, M, S, _, h, _, _ => absurd h (Nat.not_lt_zero _)
  | 0, k + 1, P, M, S, hm, _, _, _ => by
    obtain rfl : M = [] := List.eq_nil_of_length_eq_zero (by omega)
    rw [steelyardref05_Text.l1, if_neg (by simp; omega)]
    rfl
  | n + 1, k + 1, P, M, S, hm, hk, hp, hz => by
    by_cases h1 : M.length ≤ 1
    · rw [steelyardref05_Text.l1, if_neg (by omega)]
      have : M.reverse = M := by
        match M, h1 with
        | [], _ => rfl
        | [x], _ => rfl
      rw [this]
    · obtain ⟨a, M1, rfl⟩ : ∃ a M1, M = a :: M1 := by
        match M, h1 with
        | a :: M1, _ => exact ⟨a, M1, rfl⟩
      obtain ⟨M2, b, rfl⟩ : ∃ M2 b, M1 = M2 ++ [b] := ⟨M1.dropLast, M1.getLast (by rintro rfl; simp at h1), (List.dropLast_concat_getLast _).symm⟩
      simp only [List.length_cons, List.length_append, List.length_nil] at hm hz h1 ⊢
      have ih := turn_row n k (P ++ [b]) M2 ([a] ++ S) (by omega) (by omega) (by simp; omega) (by simp; omega)
      generalize hx : P ++ a :: (M2 ++ [b]) ++ S = X
      have hX : X = P ++ ([a] ++ (M2 ++ ([b] ++ S))) := by rw [← hx]; simp
      have hlen : X.length = P.length + (M2.length + 2) + S.length := by rw [hX]; simp; omega
      rw [steelyardref05_Text.l1, if_pos (by omega), if_pos (by omega), if_pos (by omega), if_pos (by omega), if_pos (by omega)]
      have r1 : rd X ((P.length : Int) + ((M2.length + (0 + 1) + 1 : Nat) : Int) - 1) = b := by
        have e : ((P.length : Int) + ((M2.length + (0 + 1) + 1 : Nat) : Int) - 1).toNat = P.length + (M2.length + 1) := by omega
        unfold rd
        rw [e, hX]
        simp [List.getD]
      have r2 : rd X (P.length : Int) = a := by
        unfold rd
        rw [Int.toNat_natCast, hX]
        simp [List.getD]
      have e1 : ((P.length : Int) + ((M2.length + (0 + 1) + 1 : Nat) : Int) - 1).toNat = P.length + (M2.length + 1) := by omega
      have e2 : (X.set P.length b).set (P.length + (M2.length + 1)) a = P ++ [b] ++ M2 ++ ([a] ++ S) := by
        rw [hX]
        simp [List.set_append]
      have w1 : wrap64 ((P.length : Int) + 1) = ((P ++ [b]).length : Int) := by simp [wrap64]; omega
      have w2 : wrap64 ((P.length : Int) + ((M2.length + (0 + 1) + 1 : Nat) : Int) - 1 - 1) = ((P ++ [b]).length : Int) + (M2.length : Int) - 1 := by simp [wrap64]; omega
      rw [r1, r2, e1, Int.toNat_natCast, e2, w1, w2, ih]
      congr 2
      simp
theorem toNat48 (q : Nat) : (48 + (q : Int)).toNat = 48 + q := by omega
theorem dec_rev : ∀ (j m : Nat), m < 10 ^ j → 0 < m → (Lib.decDigits m) = (revDigits m).reverse.map fun n => UInt8.ofNat n.toNat
  | 0, m, h, h0 => by omega
  | j + 1, m, h, h0 => by
    rw [revDigits_pos m h0, Lib.decDigits]
    by_cases h1 : m < 10
    · have e : m / 10 = 0 := by omega
      have e2 : m % 10 = m := by omega
      rw [dif_pos h1, e, e2, revDigits_zero]
      simp only [List.reverse_cons, List.reverse_nil, List.nil_append, List.map_cons, List.map_nil, toNat48]
    · rw [dif_neg h1, dec_rev j (m / 10) (by rw [Nat.pow_succ] at h; omega) (by omega)]
      simp only [List.reverse_cons, List.map_append, List.map_cons, List.map_nil, toNat48]
def natB (m : Nat) : ByteArray := ⟨(Lib.decDigits m).toArray⟩
theorem text5_limbs (m : Nat) (h : m < 18446744073709551616) : steelyardref05_Text.f 200 (limbs m) = some (natB m) := by
  obtain ⟨k', h1, h2⟩ := text_rounds 20 173 [] m (by omega) h (by simp)
  rw [steelyardref05_Text.f, trim_limbs 197 m, Option.bind_some, h2, List.nil_append]
  obtain ⟨k2, rfl⟩ : ∃ k2, k' = k2 + 1 := ⟨k' - 1, by omega⟩
  rw [steelyardref05_Text.l0, if_neg (by simp)]
  by_cases h0 : m = 0
  · subst h0
    rw [revDigits_zero, if_pos (by simp), natB, Lib.decDigits_one (by omega)]
    rfl
  · have hl := revDigits_len 20 m (by omega)
    have hp : 0 < (revDigits m).length := by rw [revDigits_pos m (by omega)]; simp
    rw [if_neg (by omega)]
    have := turn_row (revDigits m).length k2 [] (revDigits m) [] (Nat.le_refl _) (by omega) rfl (by simp; omega)
    simp only [List.nil_append, List.append_nil, List.length_nil] at this
    have w : wrap64 (((revDigits m).length : Int) - 1) = ((0 : Nat) : Int) + ((revDigits m).length : Int) - 1 := by simp [wrap64]; omega
    rw [w]
    refine this.trans ?_
    rw [natB, dec_rev 20 m (by omega) (by omega)]
    rfl
end Rt
end Go.Proofs.YtcajdkncohcaeaaDoor

namespace Go.Proofs.YtcajdkncohcaeaaDoor
open Go.RowKit Go.Proofs.YtcajdkncohcaeaaDoorW.PrintWords

/-! ### the reference's text of a number, whose printed walk does not go through -/
theorem neg_of (x : Bool) (A : Option Addr) (n c : Nat) (w : World) : Sem.run Tryd.prog (Instr.field 99 (.agg #[.bool x, .slice A n c]) 0) w = .ok (.bool x) w := by
  have hu := Tryd.underlying99
  unfold Instr.field
  go_simp
  rfl
attribute [local go_sem] neg_of   -- for this text's walk alone
set_option maxRecDepth 20000 in
set_option maxHeartbeats 4000000 in
theorem rtext6_any (k : Nat) (b : Bool) (L : List Int) (bn : Bool) (bl : List Int) (r : ByteArray) (w : World) (A : Option Addr) (c : Nat) (hr : Kd.C (Kd.int .u32) w A L.length L) (hc : L.length ≤ c) (h1 : Rt.steelyardref06_Trim.f k b L = some (bn, bl)) (h2 : Rt.steelyardref05_Text.f k L = some r) (hz : r.size ≤ 100) :
    Calls Tryd.prog 69 #[.agg #[.bool b, .slice A L.length c]] w fun e w' => e = .returned (.string (if bn = true then ⟨#[45]⟩ ++ r else r)) ∧ Below w.heap.size w w' := by
  obtain ⟨g, hg⟩ : ∃ g, w.heap.size = g := ⟨_, rfl⟩
  obtain ⟨W, hW⟩ : ∃ W, w.alloc (.cells #[.bool b, .slice A L.length c] 99) = W := ⟨_, rfl⟩
  have s1 : W.heap.size = g + 1 := by rw [← hW, ← hg]; simp
  have ca0 : W.cell? ⟨g, 0, none⟩ = some (.bool b) := by rw [← hW, ← hg]; simp
  have ca1 : W.cell? ⟨g, 1, none⟩ = some (.slice A L.length c) := by rw [← hW, ← hg]; simp
  have HBW : Hid (Below g w W) := Lib.hid (by rw [← hW, ← hg]; exact alloc_keep _ _)
  have HC1 : Hid (Kd.C (Kd.int .u32) W A L.length L) := Lib.hid (Kd.C_below hr (by rw [hg]; exact HBW.out))
  have HT := Lib.hid (Rt.steelyardref06_Trim.calls k b A c L bn bl W HC1.out hc h1)
  have HX : Hid (∀ w1 : World, Below W.heap.size W w1 → Calls Tryd.prog 90 #[.slice A L.length c] w1 fun e w' => e = .returned (.string r) ∧ Below w1.heap.size w1 w') := Lib.hid (fun w1 hb => Rt.steelyardref05_Text.calls k A c L r w1 (Kd.C_below HC1.out hb) hc h2)
  have HS := Lib.hid hW
  clear hW hr h1 h2
  have hu99 := Tryd.underlying99
  have hz2 : (1 : Nat) + r.size ≤ 9223372036854775807 := by omega
  cases bn
  all_goals
    go_enter Tryd.func69, Tryd.ntmps69
    go_wp2_with (first | (go_at_call 89; rw [HS.out]; with_reducible refine (HT.out).mono ?_; rintro e w1 ⟨v1, rfl, hR1, hb1⟩; obtain ⟨A1, c1, rfl⟩ := Kd.R_slice hR1; have HB1 := Lib.hid hb1; have ca1b : w1.cell? ⟨g, 1, none⟩ = some (.slice A L.length c) := (hb1.cell (by show g < W.heap.size; omega)).trans ca1) | (go_at_call 90; with_reducible refine (HX.out _ HB1.out).mono ?_; rintro e w2 ⟨rfl, hb2⟩; have HB2 := Lib.hid (HBW.out.trans ((HB1.out.mono (by omega)).trans (hb2.mono (by have := HB1.out.size; omega))))))
    go_ret
    exact ⟨rfl, HB2.out⟩
end Go.Proofs.YtcajdkncohcaeaaDoor

namespace Go.Proofs.YtcajdkncohcaeaaDoor
open Go.RowKit Go.Proofs.YtcajdkncohcaeaaDoorW.PrintWords

/-! ### the reference's number of an int64, and its text -/
theorem of_limbs (k m : Nat) (h : m < 18446744073709551616) : Rt.steelyardref01_Of.f (k + 3) (m : Int) = some (Rt.limbs m) := by
  have e1 : (m : Int) % 4294967296 = ((m % 4294967296 : Nat) : Int) := by omega
  have e2 : (m : Int) / 4294967296 % 4294967296 = ((m / 4294967296 : Nat) : Int) := by omega
  rw [Rt.steelyardref01_Of.f, e1, e2, Rt.trim_pair k _ _ (by omega), Option.bind_some]
  congr 2
  omega
theorem make_limbs (k m : Nat) (b : Bool) : Rt.steelyardref06_Make.f (k + 3) b (Rt.limbs m) = some (b && decide (0 < m), Rt.limbs m) := by
  rw [Rt.steelyardref06_Make.f, Rt.trim_limbs, Option.bind_some]
  cases b
  · rfl
  · rw [if_pos rfl]
    by_cases h : 0 < m
    · have := Rt.limbs_pos m h
      rw [decide_eq_true (by omega), decide_eq_true h]
      rfl
    · obtain rfl : m = 0 := by omega
      rfl
theorem of_int (k : Nat) (n : Int) (h : -9223372036854775808 ≤ n ∧ n ≤ 9223372036854775807) : Rt.steelyardref06_Of.f (k + 3) n = some (decide (n < 0), Rt.limbs n.natAbs) := by
  obtain ⟨m, hm⟩ : ∃ m, n.natAbs = m := ⟨_, rfl⟩
  by_cases h0 : n < 0
  · have e : IntKind.u64.wrap ((IntKind.u64.wrap (wrap64 (-(wrap64 (n + 1))))) + 1) = (m : Int) := by
      simp only [IntKind.wrap, IntKind.bits, IntKind.signed, wrap64]
      simp
      omega
    rw [Rt.steelyardref06_Of.f, if_pos h0, e, of_limbs k m (by omega), Option.bind_some, make_limbs k m, Option.bind_some, hm, decide_eq_true h0, decide_eq_true (by omega)]
    rfl
  · have e : IntKind.u64.wrap n = (m : Int) := by
      simp only [IntKind.wrap, IntKind.bits, IntKind.signed]
      simp
      omega
    rw [Rt.steelyardref06_Of.f, if_neg h0, e, of_limbs k m (by omega), Option.bind_some, make_limbs k m, Option.bind_some, hm, decide_eq_false h0]
    rfl
theorem ofText_any (n : Int) (h : -9223372036854775808 ≤ n ∧ n ≤ 9223372036854775807) : OfText n := by
  obtain ⟨m, hm⟩ : ∃ m, n.natAbs = m := ⟨_, rfl⟩
  have ho := of_int 200 n h
  rw [hm] at ho
  refine ⟨decide (n < 0), Rt.limbs m, fun w => ?_, fun w A c hC hc => ?_⟩
  · refine (Rt.steelyardref06_Of.calls 203 n _ _ w ho).mono ?_
    rintro e w1 ⟨v, rfl, hR, hb⟩
    obtain ⟨A, c, rfl, hc, hC⟩ := Kd.R_reads hR
    exact ⟨A, c, rfl, hC, hc, hb⟩
  · have ht : Rt.steelyardref06_Trim.f 200 (decide (n < 0)) (Rt.limbs m) = some (decide (n < 0), Rt.limbs m) := by
      rw [Rt.steelyardref06_Trim.f, make_limbs 197 m, Option.bind_some]
      congr 2
      by_cases h0 : n < 0
      · rw [decide_eq_true h0, decide_eq_true (by omega)]; rfl
      · rw [decide_eq_false h0]; rfl
    have hx := Rt.text5_limbs m (by omega)
    have hit : itoaB n = if decide (n < 0) = true then ⟨#[45]⟩ ++ Rt.natB m else Rt.natB m := by
      unfold itoaB Lib.itoa Rt.natB
      by_cases h0 : n < 0
      · rw [if_pos h0, if_pos (decide_eq_true h0), hm]
        apply ByteArray.ext
        apply Array.toList_inj.1
        simp [ByteArray.data_append]
      · rw [if_neg h0, if_neg (by simpa using h0)]
        congr 3
        omega
    have hz : (Rt.natB m).size ≤ 100 := by
      have := itoaB_size n h
      rw [hit] at this
      split at this
      · rw [ByteArray.size_append] at this; omega
      · omega
    rw [hit]
    exact rtext6_any 200 _ _ _ _ _ w A c hC hc ht hx hz
end Go.Proofs.YtcajdkncohcaeaaDoor

namespace Go.Proofs.YtcajdkncohcaeaaDoor
open Go.RowKit Go.Proofs.YtcajdkncohcaeaaDoorW.PrintWords Go.Proofs.YtcajdkncohcaeaaDoorW.PrintLast

/-! ### three new variables of a region of open order: what is known, whatever is listed so far -/
abbrev gotC (a : Nat → Int) (e : Int) : Array Value := #[.int .i64 (a 0), .int .i64 (a 1), .int .i64 (a 2), .int .i64 (a 3), .int .i64 (a 4), .int .i64 (a 5), .int .i64 (a 6), .int .i64 e]
def F4 (W : World) (t : TypeId) (C : Nat → Array Value) (z : Array Value) (b : Nat → Bool) (G : Nat → Nat) (w' : World) : Prop :=
  Below W.heap.size W w' ∧ ∀ k, k < 3 → b (9 + k) = true → (W.heap.size ≤ G k ∧ w'.heap[G k]? = some (.cells (if b (12 + k) = true then C k else z) t (0, 0)) ∧ ∀ j, j < 3 → j ≠ k → b (9 + j) = true → G j ≠ G k)
theorem F4.start (W : World) (t : TypeId) (C : Nat → Array Value) (z : Array Value) (G : Nat → Nat) : F4 W t C z (fun _ => false) G W.drew :=
  ⟨(Below.refl _ _).drew, fun _ _ h => by cases h⟩
theorem F4.keep {W w' w'' : World} {t : TypeId} {C : Nat → Array Value} {z : Array Value} {b : Nat → Bool} {G : Nat → Nat} {i : Nat} (h : F4 W t C z b G w') (hb : Below w'.heap.size w' w'') (hi : i < 9) : F4 W t C z (up b i) G w'' := by
  refine ⟨h.1.trans (hb.mono h.1.size), fun k hk h9 => ?_⟩
  rw [up_ne (by omega)] at h9
  obtain ⟨h1, h2, h3⟩ := h.2 k hk h9
  refine ⟨h1, ?_, fun j hj hjk hbj => h3 j hj hjk ?_⟩
  · rw [up_ne (by omega)]; exact blk_below h2 hb
  · rwa [up_ne (by omega)] at hbj
theorem F4.alloc {W w' : World} {t : TypeId} {C : Nat → Array Value} {z : Array Value} {b : Nat → Bool} {G G' : Nat → Nat} (k : Nat) (hk : k < 3) (h : F4 W t C z b G w') (h9 : b (9 + k) = false) (h12 : b (12 + k) = false)
    (hG : ∀ j, G' j = if j = k then w'.heap.size else G j) : F4 W t C z (up b (9 + k)) G' (w'.alloc (.cells z t (0, 0))) := by
  refine ⟨h.1.alloc h.1.size _, fun j hj hbj => ?_⟩
  by_cases e : j = k
  · subst e
    refine ⟨?_, ?_, fun i hi hik hbi => ?_⟩
    · rw [hG, if_pos rfl]; exact h.1.size
    · rw [hG, if_pos rfl, up_ne (by omega), h12, blk_new]
      rfl
    · rw [hG i, hG j, if_pos rfl, if_neg hik]
      rw [up_ne (by omega)] at hbi
      exact Nat.ne_of_lt (blk_lt (h.2 i hi hbi).2.1)
  · rw [up_ne (by omega)] at hbj
    obtain ⟨h1, h2, h3⟩ := h.2 j hj hbj
    refine ⟨by rw [hG, if_neg e]; exact h1, ?_, fun i hi hij hbi => ?_⟩
    · rw [hG, if_neg e, up_ne (by omega)]; exact blk_alloc h2 _
    · rw [hG i, hG j, if_neg e]
      by_cases ei : i = k
      · rw [if_pos ei]; exact Nat.ne_of_gt (blk_lt h2)
      · rw [if_neg ei]; rw [up_ne (by omega)] at hbi; exact h3 i hi hij hbi
theorem F4.store {W w' w'' : World} {t : TypeId} {C : Nat → Array Value} {z : Array Value} {b : Nat → Bool} {G : Nat → Nat} (k : Nat) (hk : k < 3) (h : F4 W t C z b G w') (h9 : b (9 + k) = true)
    (h1 : w''.heap[G k]? = some (.cells (C k) t (0, 0))) (h2 : ∀ g, g ≠ G k → w''.heap[g]? = w'.heap[g]?) (h3 : Below W.heap.size W w'') : F4 W t C z (up b (12 + k)) G w'' := by
  refine ⟨h3, fun j hj hbj => ?_⟩
  rw [up_ne (by omega)] at hbj
  obtain ⟨g1, g2, g3⟩ := h.2 j hj hbj
  refine ⟨g1, ?_, fun i hi hij hbi => g3 i hi hij (by rwa [up_ne (by omega)] at hbi)⟩
  by_cases e : j = k
  · subst e; rw [up_self, if_pos rfl]; exact h1
  · rw [up_ne (by omega), h2 _ (fun x => (h.2 k hk h9).2.2 j hj e hbj x)]; exact g2
/-- A row of eight stores into one block. -/
theorem set8 {w : World} {g : Nat} {t : TypeId} {a : Nat → Int} {e : Int} (h : w.heap[g]? = some (.cells (gotC zD 0) t (0, 0))) :
    ((((((((w.setCell ⟨g, 0, none⟩ (.int .i64 (a 0))).setCell ⟨g, 1, none⟩ (.int .i64 (a 1))).setCell ⟨g, 2, none⟩ (.int .i64 (a 2))).setCell ⟨g, 3, none⟩ (.int .i64 (a 3))).setCell ⟨g, 4, none⟩ (.int .i64 (a 4))).setCell ⟨g, 5, none⟩ (.int .i64 (a 5))).setCell ⟨g, 6, none⟩ (.int .i64 (a 6))).setCell ⟨g, 7, none⟩ (.int .i64 e)).heap[g]? = some (.cells (gotC a e) t (0, 0)) := by
  have h0 := blk_put (cs' := #[.int .i64 (a 0), .int .i64 0, .int .i64 0, .int .i64 0, .int .i64 0, .int .i64 0, .int .i64 0, .int .i64 0]) h 0 (.int .i64 (a 0)) rfl
  have h1 := blk_put (cs' := #[.int .i64 (a 0), .int .i64 (a 1), .int .i64 0, .int .i64 0, .int .i64 0, .int .i64 0, .int .i64 0, .int .i64 0]) h0 1 (.int .i64 (a 1)) rfl
  have h2 := blk_put (cs' := #[.int .i64 (a 0), .int .i64 (a 1), .int .i64 (a 2), .int .i64 0, .int .i64 0, .int .i64 0, .int .i64 0, .int .i64 0]) h1 2 (.int .i64 (a 2)) rfl
  have h3 := blk_put (cs' := #[.int .i64 (a 0), .int .i64 (a 1), .int .i64 (a 2), .int .i64 (a 3), .int .i64 0, .int .i64 0, .int .i64 0, .int .i64 0]) h2 3 (.int .i64 (a 3)) rfl
  have h4 := blk_put (cs' := #[.int .i64 (a 0), .int .i64 (a 1), .int .i64 (a 2), .int .i64 (a 3), .int .i64 (a 4), .int .i64 0, .int .i64 0, .int .i64 0]) h3 4 (.int .i64 (a 4)) rfl
  have h5 := blk_put (cs' := #[.int .i64 (a 0), .int .i64 (a 1), .int .i64 (a 2), .int .i64 (a 3), .int .i64 (a 4), .int .i64 (a 5), .int .i64 0, .int .i64 0]) h4 5 (.int .i64 (a 5)) rfl
  have h6 := blk_put (cs' := #[.int .i64 (a 0), .int .i64 (a 1), .int .i64 (a 2), .int .i64 (a 3), .int .i64 (a 4), .int .i64 (a 5), .int .i64 (a 6), .int .i64 0]) h5 6 (.int .i64 (a 6)) rfl
  have h7 := blk_put (cs' := #[.int .i64 (a 0), .int .i64 (a 1), .int .i64 (a 2), .int .i64 (a 3), .int .i64 (a 4), .int .i64 (a 5), .int .i64 (a 6), .int .i64 e]) h6 7 (.int .i64 e) rfl
  exact h7
theorem set8_far {w : World} {g k : Nat} (hk : k ≠ g) (v0 v1 v2 v3 v4 v5 v6 v7 : Value) :
    ((((((((w.setCell ⟨g, 0, none⟩ v0).setCell ⟨g, 1, none⟩ v1).setCell ⟨g, 2, none⟩ v2).setCell ⟨g, 3, none⟩ v3).setCell ⟨g, 4, none⟩ v4).setCell ⟨g, 5, none⟩ v5).setCell ⟨g, 6, none⟩ v6).setCell ⟨g, 7, none⟩ v7).heap[k]? = w.heap[k]? := by
  repeat rw [Below.heap_setCell _ _ _ _ hk]
theorem set8_below {W w : World} {g : Nat} (h : Below W.heap.size W w) (hg : W.heap.size ≤ g) (v0 v1 v2 v3 v4 v5 v6 v7 : Value) :
    Below W.heap.size W ((((((((w.setCell ⟨g, 0, none⟩ v0).setCell ⟨g, 1, none⟩ v1).setCell ⟨g, 2, none⟩ v2).setCell ⟨g, 3, none⟩ v3).setCell ⟨g, 4, none⟩ v4).setCell ⟨g, 5, none⟩ v5).setCell ⟨g, 6, none⟩ v6).setCell ⟨g, 7, none⟩ v7) :=
  bl_set (bl_set (bl_set (bl_set (bl_set (bl_set (bl_set (bl_set h hg _) hg _) hg _) hg _) hg _) hg _) hg _) hg _
theorem got8 {w : World} {g : Nat} {t : TypeId} {a : Nat → Int} {e : Int} (h : w.heap[g]? = some (.cells (gotC a e) t (0, 0))) : at8e w g a e := by
  refine ⟨fun j hj => ?_, by rw [blk_cell h]; rfl⟩
  rw [blk_cell h]
  rcases below7 hj with h | h | h | h | h | h | h <;> subst h <;> rfl
end Go.Proofs.YtcajdkncohcaeaaDoor
