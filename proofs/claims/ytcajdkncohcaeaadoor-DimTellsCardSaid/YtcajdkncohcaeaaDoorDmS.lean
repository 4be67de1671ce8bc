import Derived.Test.YtcajdkncohcaeaaDoorDmR
import Derived.Test.YtcajdkncohcaeaaDoorDmF
namespace Go.Proofs.YtcajdkncohcaeaaDoor
set_option linter.unusedVariables false
set_option linter.unusedSimpArgs false
open Go.RowKit Go.Proofs.YtcajdkncohcaeaaDoorW.PrintWords

/-! ### the reference's text of a dimension, given its text of a number -/
def joinB (l : List ByteArray) : ByteArray := if l = [] then ⟨#[]⟩ else ⟨(Lib.join (l.map (·.data.toList)) [32]).toArray⟩
theorem textD_join (a : Nat → Int) : textD a = if textParts a = [] then ⟨#[49]⟩ else joinB (textParts a) := by
  unfold textD joinB
  split <;> rfl
theorem join_snoc (sep x : List UInt8) : ∀ l : List (List UInt8), l ≠ [] → Lib.join (l ++ [x]) sep = Lib.join l sep ++ (sep ++ x)
  | [], h => absurd rfl h
  | y :: l, _ => by
    rw [List.cons_append, Lib.join_cons, Lib.join_cons, List.append_assoc]
    congr 1
    simp [Lib.joinTail]
theorem joinB_snoc (l : List ByteArray) (x : ByteArray) : joinB (l ++ [x]) = if l = [] then x else joinB l ++ ⟨#[32]⟩ ++ x := by
  by_cases h : l = []
  · subst h
    rw [if_pos rfl]
    unfold joinB
    rw [if_neg (by simp)]
    apply ByteArray.ext
    apply Array.toList_inj.1
    simp [Lib.join_one]
  · rw [if_neg h]
    unfold joinB
    rw [if_neg (by simp), if_neg h]
    apply ByteArray.ext
    apply Array.toList_inj.1
    rw [List.map_append, List.map_cons, List.map_nil, join_snoc _ _ _ (by simpa using h)]
    simp [ByteArray.data_append]
theorem joinB_size (l : List ByteArray) (h : ∀ x ∈ l, x.size ≤ 25) : (joinB l).size ≤ 26 * l.length := by
  unfold joinB
  split
  · exact Nat.zero_le _
  · have := join_le [32] (by decide) (l.map (·.data.toList)) (by
      intro x hx
      obtain ⟨y, hy, rfl⟩ := List.mem_map.1 hx
      have := h y hy
      rwa [Lib.size_eq] at this)
    rw [Lib.size_eq]
    simpa using this
theorem part_ne (k : Nat) (n : Int) : 1 ≤ (partB k n).size := by
  have h : 1 ≤ (nameB k).size := by unfold nameB; split <;> decide
  unfold partB
  split
  · exact h
  · rw [ByteArray.size_append, ByteArray.size_append]; omega
theorem joinB_ne (l : List ByteArray) (x : ByteArray) (hx : 1 ≤ x.size) : ((joinB (l ++ [x])).toList == []) = false := by
  have h : 1 ≤ (joinB (l ++ [x])).size := by
    rw [joinB_snoc]
    split
    · exact hx
    · rw [ByteArray.size_append, ByteArray.size_append]; omega
  rw [beq_eq_false_iff_ne]
  intro e
  rw [Lib.size_eq, ← Lib.toList_data, e] at h
  simp at h
/-- what is left of the reference's whole numbers: a number's text -/
def OfText (n : Int) : Prop := ∃ (b : Bool) (L : List Int),
  (∀ w : World, Calls Tryd.prog 70 #[.int .i64 n] w fun e w' => ∃ A c, e = .returned (.agg #[.bool b, .slice A L.length c]) ∧ Kd.C (Kd.int .u32) w' A L.length L ∧ L.length ≤ c ∧ Below w.heap.size w w') ∧
  (∀ (w : World) (A : Option Addr) (c : Nat), Kd.C (Kd.int .u32) w A L.length L → L.length ≤ c → Calls Tryd.prog 69 #[.agg #[.bool b, .slice A L.length c]] w fun e w' => e = .returned (.string (itoaB n)) ∧ Below w.heap.size w w')

set_option maxRecDepth 20000 in
set_option maxHeartbeats 8000000 in
theorem rtext_any (HOT : ∀ n : Int, -9223372036854775808 ≤ n ∧ n ≤ 9223372036854775807 → OfText n) (a : Nat → Int) (w : World) (ha : ∀ j, j < 7 → -9223372036854775808 ≤ a j ∧ a j ≤ 9223372036854775807) :
    Calls Tryd.prog 49 #[dv a] w fun e w' => e = .returned (.string (textD a)) ∧ Below w.heap.size w w' := by
  obtain ⟨tp, htp⟩ : ∃ tp, textParts a = tp := ⟨_, rfl⟩
  have H0 : Hid ([] ++ partsL a (([0, 1, 2, 3, 4, 5, 6] : List Nat).drop 0) = tp) := Lib.hid (by rw [← htp]; rfl)
  have HT : Hid (textD a = if tp = [] then ⟨#[49]⟩ else joinB tp) := Lib.hid (by rw [textD_join, htp])
  have HAB := Lib.hid ha
  have HO := Lib.hid HOT
  clear htp ha HOT
  obtain ⟨g, hg⟩ : ∃ g, w.heap.size = g := ⟨_, rfl⟩
  obtain ⟨W, hW⟩ : ∃ W, w.alloc (.cells #[.int .i64 (a 0), .int .i64 (a 1), .int .i64 (a 2), .int .i64 (a 3), .int .i64 (a 4), .int .i64 (a 5), .int .i64 (a 6)] 65) = W := ⟨_, rfl⟩
  have s1 : W.heap.size = g + 1 := by rw [← hW, ← hg]; simp
  have HA : Hid (at7 W g a) := Lib.hid (by rw [← hW, ← hg]; exact at7_alloc w a _)
  have HBW : Hid (Below g w W) := Lib.hid (by rw [← hW, ← hg]; exact alloc_keep _ _)
  have HS := Lib.hid hW
  clear hW
  unfold dv
  go_enter Tryd.func49, Tryd.ntmps49
  go_wp2_with fail
  rw [HS.out]
  clear HS
  go_loopw [3, 4] (fun v i wr => ∃ (k : Nat) (acc : List ByteArray), v = .string (joinB acc) ∧ i = .int .i64 k ∧ k ≤ 7 ∧ acc.length ≤ k ∧ Hid (∀ x ∈ acc, 1 ≤ x.size ∧ x.size ≤ 25) ∧ Hid (acc ++ partsL a (([0, 1, 2, 3, 4, 5, 6] : List Nat).drop k) = tp) ∧ Hid (Below (g + 1) W wr)) (fun _ i _ => 7 - (intOf i).toNat)
  case atStart => exact ⟨0, [], rfl, rfl, Nat.zero_le _, Nat.zero_le _, Lib.hid (by simp), H0, Lib.hid (Below.refl _ _)⟩
  case round =>
    obtain ⟨k, acc, rfl, rfl, hk, hl, HX, HP, HB⟩ := hrel
    by_cases hlt : k < 7
    · have ca : wr.cell? ⟨g, k, none⟩ = some (.int .i64 (a k)) := at7_below HA.out HB.out (by omega) k hlt
      have hstep := partsL_drop a k hlt
      have hab := HAB.out k hlt
      obtain ⟨n, hn⟩ : ∃ n, a k = n := ⟨_, rfl⟩
      rw [hn] at ca hstep hab
      by_cases h0 : n = 0
      · have HS2 : Hid (acc ++ partsL a (([0, 1, 2, 3, 4, 5, 6] : List Nat).drop (k + 1)) = tp) := Lib.hid (by rw [← HP.out, hstep, if_pos h0])
        subst h0
        clear hstep HP
        go_wp2_with fail
        go_roundw
        case rel => exact ⟨k + 1, acc, rfl, by go_num, by omega, by omega, HX, HS2, HB⟩
        case measure => simp [intOf]; omega
      · have HS2 : Hid ((acc ++ [partB k n]) ++ partsL a (([0, 1, 2, 3, 4, 5, 6] : List Nat).drop (k + 1)) = tp) := Lib.hid (by rw [← HP.out, hstep, if_neg h0]; simp)
        have e0 : (n == 0) = false := by simpa using h0
        have HX2 : Hid (∀ x ∈ acc ++ [partB k n], 1 ≤ x.size ∧ x.size ≤ 25) := Lib.hid (by
          intro x hx
          rcases List.mem_append.1 hx with hx | hx
          · exact HX.out x hx
          · rw [List.mem_singleton.1 hx]; exact ⟨part_ne k n, partB_size k n hab⟩)
        have hjs := joinB_size acc (fun x hx => (HX.out x hx).2)
        have HJ := Lib.hid (joinB_snoc acc (partB k n))
        have hemp : ((joinB acc).toList == []) = decide (acc = []) := by
          cases hacc : acc with
          | nil => rw [decide_eq_true rfl, joinB, if_pos rfl, Lib.toList_data]; rfl
          | cons y r =>
            have : acc ≠ [] := by rw [hacc]; simp
            obtain ⟨r', z, hz⟩ : ∃ r' z, y :: r = r' ++ [z] := ⟨(y :: r).dropLast, (y :: r).getLast (by simp), (List.dropLast_concat_getLast (by simp)).symm⟩
            rw [hz, joinB_ne r' z (HX.out z (by rw [hacc, hz]; simp)).1]
            simp
        obtain ⟨st, hst⟩ : ∃ st, joinB acc = st := ⟨_, rfl⟩
        have hstz : st.size ≤ 182 := by rw [← hst]; omega
        rw [hst] at hemp HJ ⊢
        have HST := Lib.hid hst
        obtain ⟨b, L, hOf, hTx⟩ := HO.out n hab
        have HOf := Lib.hid hOf
        have HTx := Lib.hid hTx
        obtain ⟨it, hit⟩ : ∃ it, itoaB n = it := ⟨_, rfl⟩
        have hitz : it.size ≤ 21 := by rw [← hit]; exact itoaB_size n hab
        rw [hit] at HTx
        have HPB : Hid (partB k n = if n = 1 then nameB k else nameB k ++ ⟨#[94]⟩ ++ it) := Lib.hid (by rw [← hit]; rfl)
        clear hstep HP hOf hTx hst hit hjs
        have n1 : ¬ (9223372036854775807 : Int) < (st.size : Int) + 1 := by omega
        by_cases hac : acc = []
        all_goals
          first
          | (have hem : (st.toList == []) = true := by rw [hemp, decide_eq_true hac])
          | (have hem : (st.toList == []) = false := by rw [hemp, decide_eq_false hac])
          first
          | (have HJ2 : Hid (joinB (acc ++ [partB k n]) = partB k n) := Lib.hid (by rw [HJ.out, if_pos hac]))
          | (have HJ2 : Hid (joinB (acc ++ [partB k n]) = st ++ ⟨#[32]⟩ ++ partB k n) := Lib.hid (by rw [HJ.out, if_neg hac]))
          first
          | (have hst0 : st = ⟨#[]⟩ := by rw [← HST.out, hac]; rfl)
          | skip
          clear hemp HJ HST
          first | (subst hst0) | skip
          by_cases h1 : n = 1
        all_goals
          first
          | (have e1 : (n == 1) = true := by simpa using h1)
          | (have e1 : (n == 1) = false := by simpa using h1)
          first
          | (have HPC : Hid (partB k n = nameB k) := Lib.hid (by rw [HPB.out, if_pos h1]))
          | (have HPC : Hid (partB k n = nameB k ++ ⟨#[94]⟩ ++ it) := Lib.hid (by rw [HPB.out, if_neg h1]))
          clear HPB
          rcases below7 hlt with h | h | h | h | h | h | h
        all_goals
          subst h
          clear hlt hk
          go_wp2_with (first | (go_at_call 70; with_reducible refine (HOf.out _).mono ?_; rintro e w1 ⟨A1, c1, rfl, hC1, hc1, hb1⟩; have HB1 := Lib.hid (HB.out.trans (hb1.mono (by have := HB.out.size; omega)))) | (go_at_call 69; with_reducible refine (HTx.out _ _ _ hC1 hc1).mono ?_; rintro e w2 ⟨rfl, hb2⟩; have HB2 := Lib.hid (HB1.out.trans (hb2.mono (by have := HB1.out.size; omega)))))
          go_roundw
          case rel => first | (rw [hn]; (repeat apply Exists.intro); exact ⟨⟨_, acc ++ [partB _ n], (by rw [HJ2.out, HPC.out]; apply congrArg; apply ByteArray.ext; apply Array.toList_inj.1; simp [nameB, ByteArray.data_append]), by go_num, by omega, by simp; omega, HX2, HS2, HB2⟩, rfl⟩) | exact ⟨_, acc ++ [partB _ n], (by rw [HJ2.out, HPC.out]; apply congrArg; apply ByteArray.ext; apply Array.toList_inj.1; simp [nameB, ByteArray.data_append]), by go_num, by omega, by simp; omega, HX2, HS2, by first | exact HB2 | exact HB⟩ | (exact absurd (List.length_eq_zero_iff.1 (Nat.le_zero.1 hl)) hac)
          case measure => simp [intOf]
    · obtain rfl : k = 7 := by omega
      have hacc : acc = tp := by rw [← HP.out]; simp [partsL]
      subst hacc
      clear HP
      have HB9 := Lib.hid (HBW.out.trans (HB.out.mono (by omega)))
      by_cases hac : acc = []
      · have HE : Hid (textD a = ⟨#[49]⟩) := Lib.hid (by rw [HT.out, if_pos hac])
        have hem : ((joinB acc).toList == []) = true := by rw [hac, joinB, if_pos rfl, Lib.toList_data]; rfl
        have hem2 : (joinB acc).toList.isEmpty = true := by rw [hac, joinB, if_pos rfl, Lib.toList_data]; rfl
        clear HT hac
        go_wp2_with fail
        go_ret
        exact ⟨by rw [HE.out]; rfl, by first | exact HB9.out | (rw [hg]; exact HB9.out)⟩
      · have HE : Hid (textD a = joinB acc) := Lib.hid (by rw [HT.out, if_neg hac])
        have hem : ((joinB acc).toList == []) = false := by
          obtain ⟨r', z, hz⟩ : ∃ r' z, acc = r' ++ [z] := ⟨acc.dropLast, acc.getLast hac, (List.dropLast_concat_getLast hac).symm⟩
          rw [hz]
          exact joinB_ne r' z (HX.out z (by rw [hz]; simp)).1
        have hem2 : (joinB acc).toList.isEmpty = false := by
          cases hq : (joinB acc).toList with
          | nil => rw [hq] at hem; cases hem
          | cons _ _ => rfl
        clear HT
        go_wp2_with fail
        go_ret
        exact ⟨by rw [HE.out]; rfl, by first | exact HB9.out | (rw [hg]; exact HB9.out)⟩
end Go.Proofs.YtcajdkncohcaeaaDoor
