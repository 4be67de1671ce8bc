import Derived.Test.YtcajdkncohcaeaaDoorLxC
import Derived.Lib.IndexBytes
namespace Go.Proofs.YtcajdkncohcaeaaDoor
set_option linter.unusedVariables false
set_option linter.unusedSimpArgs false
open Go.RowKit

theorem expL_le (l : List UInt8) : expL l ≤ 5 := by
  unfold expL; simp only []; repeat' split
  all_goals omega
def fracL (l : List UInt8) (n : Nat) : Nat :=
  if Lib.hasPrefix (l.drop n) [46] && decide (0 < runL (l.drop (n + 1))) then n + (1 + runL (l.drop (n + 1))) else n
/-- the longest literal's bytes -/
def lenL (l : List UInt8) : Nat :=
  if runL l = 0 then 0 else fracL l (runL l) + expL (l.drop (fracL l (runL l)))
theorem hasPrefix_one (l : List UInt8) (n : Nat) (c : UInt8) (h : Lib.hasPrefix (l.drop n) [c] = true) : n < l.length := by
  by_cases hn : n < l.length
  · exact hn
  · rw [List.drop_of_length_le (by omega)] at h; simp [Lib.hasPrefix] at h
theorem fracL_le (l : List UInt8) (n : Nat) (h : n ≤ l.length) : fracL l n ≤ l.length := by
  unfold fracL; split
  · rename_i h1; simp at h1
    have := hasPrefix_one l n 46 h1.1
    have h2 := runL_le (l.drop (n + 1))
    rw [List.length_drop] at h2; omega
  · exact h

set_option maxHeartbeats 1000000 in
theorem length_any (s : ByteArray) (w : World) (hs : s.size ≤ 140737488351232) (hG : Glob w) :
    Calls Tryd.prog 58 #[.string s] w fun e w' => e = .returned (.int .i64 (lenL s.data.toList)) ∧ w = w' := by
  obtain ⟨l, hl⟩ : ∃ l, s.data.toList = l := ⟨_, rfl⟩
  have hsz : l.length = s.size := by rw [← hl]; rfl
  obtain ⟨n, hn⟩ : ∃ n, runL l = n := ⟨_, rfl⟩
  have hn1 : n ≤ s.size := by rw [← hn, ← hsz]; exact runL_le l
  by_cases hn0 : n = 0
  · have HF : Hid (lenL l = 0) := Lib.hid (by rw [lenL, hn, if_pos hn0])
    subst hn0
    go_enter Tryd.func58, Tryd.ntmps58
    go_wp2_with (go_at_call 78; (with_reducible refine (run_any _ _ hs hG).mono ?_); rintro e w' ⟨rfl, rfl⟩)
    go_ret
    exact ⟨by rw [hl, HF.out]; rfl, rfl⟩
  · have e0 : ((n : Int) == 0) = false := by simp; omega
    have ex : ∀ k, List.take (s.size - k) (l.drop k) = l.drop k := fun k => List.take_of_length_le (by rw [List.length_drop]; omega)
    have hz : ∀ k, (s.extract k s.size).size ≤ 140737488351232 := fun k => by rw [Lib.size_eq, Lib.extract_to_end]; simp; omega
    obtain ⟨r, hr⟩ : ∃ r, l.drop n = r := ⟨_, rfl⟩
    cases h2 : Lib.hasPrefix r [46] with
    | false =>
      have h3 : Lib.trimPrefix r [46] = r := by rw [Lib.trimPrefix, if_neg (by simp [h2])]
      have HF : Hid (lenL l = n + expL r) := Lib.hid (by rw [lenL, hn, if_neg hn0, fracL, hr, h2]; simp [hr])
      have he := expL_le r
      have hx := (ex n).trans hr
      have hz1 := hz n
      clear ex hz hr
      go_enter Tryd.func58, Tryd.ntmps58
      go_wp2_with (first | (go_at_call 78; (with_reducible refine (run_any _ _ hs hG).mono ?_); rintro e w' ⟨rfl, rfl⟩) | (go_at_call 79; (with_reducible refine (cutPrefix_any _ _ _).mono ?_); rintro e w' ⟨rfl, rfl⟩) | (go_at_call 80; (with_reducible refine (exponent_any _ _ hz1 hG).mono ?_); rintro e w' ⟨rfl, rfl⟩))
      go_ret
      exact ⟨by rw [hl, HF.out]; rfl, rfl⟩
    | true =>
      have hlt : n < l.length := hasPrefix_one l n 46 (by rw [hr]; exact h2)
      obtain ⟨u, hu⟩ : ∃ u, l.drop (n + 1) = u := ⟨_, rfl⟩
      have h3 : Lib.trimPrefix r [46] = u := by rw [Lib.trimPrefix, if_pos h2, ← hr, ← hu, List.drop_drop]; rfl
      have hlu : u.length ≤ 140737488351232 := by rw [← hu, List.length_drop]; omega
      obtain ⟨m, hm⟩ : ∃ m, runL u = m := ⟨_, rfl⟩
      have hm1 : n + 1 + m ≤ s.size := by have := runL_le u; rw [hm, ← hu, List.length_drop] at this; omega
      by_cases hm0 : m = 0
      · have HF : Hid (lenL l = n + expL r) := Lib.hid (by rw [lenL, hn, if_neg hn0, fracL, hr, h2, hu, hm, hm0]; simp [hr])
        have he := expL_le r
        have hx := (ex n).trans hr
        have hz1 := hz n
        subst hm0
        clear ex hz hr hu
        go_enter Tryd.func58, Tryd.ntmps58
        go_wp2_with (first | (go_at_call 78; (with_reducible refine (run_any s _ hs hG).mono ?_); rintro e w' ⟨rfl, rfl⟩) | (go_at_call 78; (with_reducible refine (runB_any u _ hlu hG).mono ?_); rintro e w' ⟨rfl, rfl⟩) | (go_at_call 79; (with_reducible refine (cutPrefix_any _ _ _).mono ?_); rintro e w' ⟨rfl, rfl⟩) | (go_at_call 80; (with_reducible refine (exponent_any _ _ hz1 hG).mono ?_); rintro e w' ⟨rfl, rfl⟩))
        go_ret
        exact ⟨by rw [hl, HF.out]; rfl, rfl⟩
      · have HF : Hid (lenL l = n + (1 + m) + expL (l.drop (n + (1 + m)))) := Lib.hid (by rw [lenL, hn, if_neg hn0, fracL, hr, h2, hu, hm]; simp [Nat.pos_of_ne_zero hm0])
        obtain ⟨q, hq⟩ : ∃ q, l.drop (n + (1 + m)) = q := ⟨_, rfl⟩
        have he := expL_le q
        have hx := (ex n).trans hr
        have hx2 := (ex (n + (1 + m))).trans hq
        have hz1 := hz (n + (1 + m))
        have e1 : decide ((m : Int) > 0) = true := by simp; omega
        have HG := HF.out
        rw [hq] at HG
        have HF := Lib.hid HG
        clear ex hz hr hu hq HG
        go_enter Tryd.func58, Tryd.ntmps58
        go_wp2_with (first | (go_at_call 78; (with_reducible refine (run_any s _ hs hG).mono ?_); rintro e w' ⟨rfl, rfl⟩) | (go_at_call 78; (with_reducible refine (runB_any u _ hlu hG).mono ?_); rintro e w' ⟨rfl, rfl⟩) | (go_at_call 79; (with_reducible refine (cutPrefix_any _ _ _).mono ?_); rintro e w' ⟨rfl, rfl⟩) | (go_at_call 80; (with_reducible refine (exponent_any _ _ hz1 hG).mono ?_); rintro e w' ⟨rfl, rfl⟩))
        go_ret
        exact ⟨by rw [hl, HF.out]; rfl, rfl⟩
end Go.Proofs.YtcajdkncohcaeaaDoor
