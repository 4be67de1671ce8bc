import Derived.Test.YtcajdkncohcaeaaDoorXTrF
namespace Go.Proofs.YtcajdkncohcaeaaDoor
set_option linter.unusedVariables false
set_option linter.unusedSimpArgs false
open Go.RowKit Go.Proofs.YtcajdkncohcaeaaDoorW.PrintWords
open GTree (S52 k52)
set_option maxRecDepth 20000 in
set_option maxHeartbeats 8000000 in
theorem behind_calls (A0 : Option Addr) (c0 : Nat) (l0 : List (S52)) (A1 : Option Addr) (c1 : Nat) (l1 : List (S52)) (r : List (S52)) (w : World) (hr0 : Kd.C k52 w A0 l0.length l0) (hc0 : l0.length ≤ c0) (hr1 : Kd.C k52 w A1 l1.length l1) (hc1 : l1.length ≤ c1) (h : behindF l0 l1 = some r) :
    Calls Tryd.prog 60 #[.slice A0 l0.length c0, .slice A1 l1.length c1] w fun e w' => ∃ v0_ : Value, e = .returned (v0_) ∧ Kd.R k52 52 w' w.heap.size (fun _ => True) v0_ r ∧ Below w.heap.size w w' := by
  unfold behindF at h
  split at h
  case isFalse => cases h
  case isTrue hsmall =>
  obtain rfl := Option.some.inj h
  clear h
  obtain ⟨n, hn⟩ : ∃ n, l0.length = n := ⟨_, rfl⟩
  obtain ⟨m, hm⟩ : ∃ m, l1.length = m := ⟨_, rfl⟩
  obtain ⟨N, hN⟩ : ∃ N, n + m = N := ⟨_, rfl⟩
  rw [hn, hm, hN] at hsmall
  rw [hn] at hr0 hc0 ⊢
  rw [hm] at hr1 hc1 ⊢
  obtain ⟨g, hg⟩ : ∃ g, w.heap.size = g := ⟨_, rfl⟩
  obtain ⟨i0, hi0, hi1, hi2, hi3⟩ : ∃ i, Tryd.prog.info? 52 = some i ∧ i.zero = some (.agg #[.int .i64 0, .int .i64 0, .int .i64 0, .int .i64 0, .string ⟨#[]⟩, .string ⟨#[]⟩, .int .i64 0]) ∧ i.size = 7 ∧ i.bytes = 72 := by
    have := infoNode
    obtain ⟨i, h1, h2⟩ := Option.map_eq_some_iff.1 this
    simp only [Prod.mk.injEq] at h2
    exact ⟨i, h1, h2.1, h2.2.1, h2.2.2⟩
  obtain ⟨cz, hcz⟩ : ∃ cz : Array Value, madeCells (Value.agg #[.int .i64 0, .int .i64 0, .int .i64 0, .int .i64 0, .string ⟨#[]⟩, .string ⟨#[]⟩, .int .i64 0]).cells ((N + 1) * 7) = cz := ⟨_, rfl⟩
  have hczs : cz.size = (N + 1) * 7 := by rw [← hcz]; exact size_madeCells _ _
  obtain ⟨W, hW⟩ : ∃ W, w.alloc (.cells cz 52 (0, 0)) = W := ⟨_, rfl⟩
  have hmk : Sem.run Tryd.prog (Instr.makeSlice 39 (.int .i64 (N : Int)) (.int .i64 ((N : Int) + 1))) w = .ok (.slice (some ⟨g, 0, none⟩) N (N + 1)) W := by
    have := run_make (P := Tryd.prog) w 39 52 i0 _ Tryd.underlying39 hi0 hi1 .i64 .i64 (N : Int) ((N : Int) + 1) (by omega) (by omega) (by rw [hi3]; omega) (by omega)
    rw [this, hi2, show ((N : Int) + 1).toNat = N + 1 by omega, Int.toNat_natCast, hcz, hg, hW]
  have hgW : W.heap[g]? = some (.cells cz.toList.toArray 52 (0, 0)) := by rw [← hW, ← hg]; simpa using blk_new w (.cells cz 52 (0, 0))
  have hBW : Below w.heap.size w W := by rw [← hW]; exact alloc_keep _ _
  have HR0 : Hid (∀ w' : World, Below w.heap.size w w' → n = 0 ∨ ∃ a, A0 = some a ∧ ∀ j v, (rowS l0)[j]? = some v → w'.cell? (a.add j) = some v) := Lib.hid (fun w' hb => by
    rcases Nat.eq_zero_or_pos n with h0 | h0
    · exact .inl h0
    · obtain ⟨ad, rfl, _⟩ := hr0.2.2 h0
      exact .inr ⟨ad, rfl, readsS (Kd.C_below hr0 hb)⟩)
  have HR1 : Hid (∀ w' : World, Below w.heap.size w w' → m = 0 ∨ ∃ a, A1 = some a ∧ ∀ j v, (rowS l1)[j]? = some v → w'.cell? (a.add j) = some v) := Lib.hid (fun w' hb => by
    rcases Nat.eq_zero_or_pos m with h0 | h0
    · exact .inl h0
    · obtain ⟨ad, rfl, _⟩ := hr1.2.2 h0
      exact .inr ⟨ad, rfl, readsS (Kd.C_below hr1 hb)⟩)
  have hw1 : IntKind.i64.wrap ((n : Int) + (m : Int)) = (N : Int) := by rw [IntKind.wrap_i64]; omega
  have hw2 : IntKind.i64.wrap ((N : Int) + 1) = (N : Int) + 1 := by rw [IntKind.wrap_i64]; omega
  have hcut : ∀ W : World, Sem.run Tryd.prog (Instr.slice 39 (.slice (some ⟨g, 0, none⟩) N (N + 1)) (some (.int .i64 (n : Int))) none none) W = .ok (.slice (some ⟨g, n * 7, none⟩) m (m + 1)) W := cut7 g N n m hN
  have HBW := Lib.hid hBW
  have HGW := Lib.hid hgW
  have HCZ := Lib.hid hczs
  have HL := Lib.hid (show l0.length = n ∧ l1.length = m ∧ n + m = N from ⟨hn, hm, hN⟩)
  have HG := Lib.hid hg
  clear hr0 hr1 hBW hgW hW hczs hcz hi0 hi1 hi2 hi3 hn hm hN hg
  have HS1 : Hid ((Tryd.prog.info? 52).map (·.size) = some 7) := Lib.hid (by kernel_rfl)
  go_enter Tryd.func60, Tryd.ntmps60
  go_wp2_with (first | ((with_reducible refine gate_builtin (b := .copy) (xs := #[.tmp 20, .tmp 21]) rfl ?_); refine wpList_copy_rows rfl (.tmp 20) (.tmp 21) 39 39 rfl 52 Tryd.underlying39 7 HS1.out g 0 N (N + 1) A0 n c0 rfl rfl cz.toList 52 HGW.out (rowS l0) (by have := HL.out; omega) (by rw [rowS_len, HL.out.1]) (HR0.out _ HBW.out) (by rw [rowS_len, HL.out.1, Array.length_toList, HCZ.out]; have := HL.out; omega) (rowS_one l0) w.heap.size w HBW.out (by rw [HG.out]; exact Nat.le_refl _) ?_; intro W1 HG1 HB1) | ((with_reducible refine gate_builtin (b := .copy) (xs := #[.tmp 26, .tmp 27]) rfl ?_); refine wpList_copy_rows rfl (.tmp 26) (.tmp 27) 39 39 rfl 52 Tryd.underlying39 7 HS1.out g (n * 7) m (m + 1) A1 m c1 rfl rfl _ 52 HG1.out (rowS l1) (Nat.le_refl _) (by rw [rowS_len, HL.out.2.1]) (HR1.out _ HB1.out) (by simp only [List.length_append, List.length_take, List.length_drop, Array.length_toList, rowS_len, HCZ.out, HL.out.1, HL.out.2.1]; have := HL.out; omega) (rowS_one l1) w.heap.size w HB1.out (by rw [HG.out]; exact Nat.le_refl _) ?_; intro W2 HG2 HB2))
  obtain ⟨zs, hzs⟩ : ∃ zs, cz.toList.drop ((n + m) * 7) = zs := ⟨_, rfl⟩
  have HM0 : Hid (W2.heap[g]? = some (.cells (rowS (mixS n l0 l1 0) ++ zs).toArray 52 (0, 0))) := Lib.hid (by
    rw [HG2.out]
    congr 3
    obtain ⟨e0, e1, e2⟩ := HL.out
    have q0 : (rowS l0).length = n * 7 := by rw [rowS_len, e0]
    have q1 : (rowS l1).length = m * 7 := by rw [rowS_len, e1]
    rw [mixS_zero, rowS_append, List.take_zero, List.nil_append, Nat.zero_add, List.take_left' q0, q0, q1, ← hzs]
    congr 1
    rw [List.drop_append, q0, List.drop_eq_nil_of_le (by rw [q0]; omega), List.nil_append, List.drop_drop]
    congr 1
    omega)
  have HZ : Hid (zs.length = 7) := Lib.hid (by rw [← hzs, List.length_drop, Array.length_toList, HCZ.out]; have := HL.out; omega)
  clear hzs HG1 HG2 HGW
  go_loopw [34] (fun v wr => ∃ i : Nat, v = .int .i64 i ∧ i ≤ m ∧ Hid (wr.heap[g]? = some (.cells (rowS (mixS n l0 l1 i) ++ zs).toArray 52 (0, 0))) ∧ Hid (Below w.heap.size w wr)) (fun v _ => m - (intOf v).toNat)
  case atStart => exact ⟨0, rfl, Nat.zero_le _, HM0, HB2⟩
  case round =>
    obtain ⟨i, rfl, him, HM, HB⟩ := hrel
    by_cases hlt : i < m
    · obtain ⟨x, hx⟩ : ∃ x, l1[i]? = some x := ⟨l1[i]'(by have := HL.out; omega), List.getElem?_eq_getElem (by have := HL.out; omega)⟩
      have HX := Lib.hid hx
      have hmx := mixS_at n l0 l1 i x hx
      rw [HL.out.1] at hmx
      obtain ⟨j, hj⟩ : ∃ j : Int, IntKind.i64.wrap ((n : Int) + (i : Int)) = j := ⟨_, rfl⟩
      have hjn : j = (n : Int) + (i : Int) := by rw [← hj, IntKind.wrap_i64]; have := HL.out; omega
      have hjt : j.toNat = n + i := by omega
      have pj : (0 ≤ j) = True := eq_true (by omega)
      have qj : (j < (N : Int)) = True := eq_true (by have := HL.out; omega)
      have c0 : wr.cell? ⟨g, j.toNat * 7, none⟩ = some (.int .i64 x.f0) := by have := rowS_cell HM.out (n + i) 0 x hmx (by omega); rw [hjt]; exact this
      have c1 : wr.cell? ⟨g, j.toNat * 7 + 1, none⟩ = some (.int .i64 x.f1) := by have := rowS_cell HM.out (n + i) 1 x hmx (by omega); rw [hjt]; exact this
      have c2 : wr.cell? ⟨g, j.toNat * 7 + 2, none⟩ = some (.int .i64 x.f2) := by have := rowS_cell HM.out (n + i) 2 x hmx (by omega); rw [hjt]; exact this
      have f1 : wr.frozen? ⟨g, j.toNat * 7 + 1, none⟩ = false := blk_frozen HM.out _
      have f2 : wr.frozen? ⟨g, j.toNat * 7 + 2, none⟩ = false := blk_frozen HM.out _
      have HMX := Lib.hid hmx
      have HJT := Lib.hid hjt
      obtain ⟨v1, hv1⟩ : ∃ v, IntKind.i64.wrap (x.f1 + (n : Int)) = v := ⟨_, rfl⟩
      obtain ⟨v2, hv2⟩ : ∃ v, IntKind.i64.wrap (x.f2 + (n : Int)) = v := ⟨_, rfl⟩
      have HV := Lib.hid (And.intro hv1 hv2)
      obtain ⟨kd, hkd⟩ : ∃ kd, x.f0 = kd := ⟨_, rfl⟩
      rw [hkd] at c0
      have HKD := Lib.hid hkd
      have hlti : ((i : Int) < (m : Int)) = True := eq_true (by omega)
      have hwi : IntKind.i64.wrap ((i : Int) + 1) = (i : Int) + 1 := by rw [IntKind.wrap_i64]; have := HL.out; omega
      clear hx hmx hjn hjt hkd
      rcases (show (((kd : Int) == 3) = true) ∨ (((kd : Int) == 3) = false ∧ ((kd : Int) == 4) = true) ∨ (((kd : Int) == 3) = false ∧ ((kd : Int) == 4) = false ∧ ((kd : Int) == 5) = true) ∨ (((kd : Int) == 3) = false ∧ ((kd : Int) == 4) = false ∧ ((kd : Int) == 5) = false ∧ ((kd : Int) == 6) = true) ∨ (((kd : Int) == 3) = false ∧ ((kd : Int) == 4) = false ∧ ((kd : Int) == 5) = false ∧ ((kd : Int) == 6) = false ∧ ((kd : Int) == 7) = true) ∨ (((kd : Int) == 3) = false ∧ ((kd : Int) == 4) = false ∧ ((kd : Int) == 5) = false ∧ ((kd : Int) == 6) = false ∧ ((kd : Int) == 7) = false ∧ ((kd : Int) == 8) = true) ∨ (((kd : Int) == 3) = false ∧ ((kd : Int) == 4) = false ∧ ((kd : Int) == 5) = false ∧ ((kd : Int) == 6) = false ∧ ((kd : Int) == 7) = false ∧ ((kd : Int) == 8) = false) from by
        cases ((kd : Int) == 3) <;> cases ((kd : Int) == 4) <;> cases ((kd : Int) == 5) <;> cases ((kd : Int) == 6) <;> cases ((kd : Int) == 7) <;> cases ((kd : Int) == 8) <;> simp) with k3 | ⟨k3, k4⟩ | ⟨k3, k4, k5⟩ | ⟨k3, k4, k5, k6⟩ | ⟨k3, k4, k5, k6, k7⟩ | ⟨k3, k4, k5, k6, k7, k8⟩ | ⟨k3, k4, k5, k6, k7, k8⟩
      all_goals
        go_wp2_with fail
        refine ⟨⟨i + 1, by go_num, by omega, ?_, Lib.hid (by repeat (first | exact HB.out | refine bl_set ?_ (by rw [HG.out]; exact Nat.le_refl _) _))⟩, by simp [intOf]; omega⟩
        refine Lib.hid ?_
        obtain ⟨e0, e1, e2⟩ := HL.out
        have hkd := HKD.out
        have h0 := HM.out
        rw [← e0] at h0
        first
        | (have ht : isTwo x.f0 = true := by rw [hkd]; unfold isTwo; first | (rw [k3]; rfl) | (rw [k3, k4]; rfl) | (rw [k3, k4, k5]; rfl) | (rw [k3, k4, k5, k6]; rfl)
           rw [HJT.out, ← HV.out.1, ← HV.out.2, ← e0]
           exact two_step h0 HX.out ht)
        | (have ht : isTwo x.f0 = false := by rw [hkd]; unfold isTwo; rw [k3, k4, k5, k6]; rfl
           have ho : isOver x.f0 = true := by rw [hkd]; unfold isOver; first | (rw [k7]; rfl) | (rw [k7, k8]; rfl)
           rw [HJT.out, ← HV.out.1, ← e0]
           exact over_step h0 HX.out ht ho)
        | (have ht : isTwo x.f0 = false := by rw [hkd]; unfold isTwo; rw [k3, k4, k5, k6]; rfl
           have ho : isOver x.f0 = false := by rw [hkd]; unfold isOver; rw [k7, k8]; rfl
           rw [← e0, leaf_step HX.out ht ho]
           exact h0)
    · obtain rfl : i = m := by omega
      have hlti : ((i : Int) < (i : Int)) = False := eq_false (by omega)
      go_wp2_with fail
      go_ret
      have HO := HM.out
      rw [show mixS (n : Int) l0 l1 i = l0 ++ l1.map (shS (n : Int)) by rw [← HL.out.2.1]; exact mixS_end _ _ _] at HO
      have := ownS (base := w.heap.size) (cap := N + 1) HO (by rw [HG.out]; exact Nat.le_refl _) (by rw [List.length_append, List.length_map, HL.out.1, HL.out.2.1]; have := HL.out; omega) (by unfold maxLen; omega) (by rw [List.length_append, rowS_len, HZ.out, List.length_append, List.length_map, HL.out.1, HL.out.2.1]; have := HL.out; omega)
      rw [List.length_append, List.length_map, HL.out.1, HL.out.2.1, HL.out.2.2] at this
      exact ⟨_, rfl, this, HB.out⟩
end Go.Proofs.YtcajdkncohcaeaaDoor
