import Derived.Test.YtcajdkncohcaeaaDoorLxS
namespace Go.Proofs.YtcajdkncohcaeaaDoor
set_option linter.unusedVariables false
set_option linter.unusedSimpArgs false
open Go.RowKit Go.Proofs.YtcajdkncohcaeaaDoorW.PrintWords
attribute [local go_sem high] eqTok eqFlt

theorem lexA_len (s : ByteArray) : ∀ (f k : Nat) (L : List Tok), lexA f k s = .ok L → L.length ≤ s.size - k := by
  intro f
  induction f with
  | zero => intro k L h; simp [lexA] at h; subst h; simp
  | succ f ih =>
    intro k L h
    unfold lexA at h
    split at h
    · simp only [] at h
      split at h
      · cases h
      · rename_i hn
        revert h
        cases hr : lexA f _ s with
        | error e => intro h; cases h
        | ok L' =>
          intro h
          simp only [consTok, Except.ok.injEq] at h
          subst h
          have := ih _ _ hr
          simp only [List.length_cons]; omega
    · simp only [Except.ok.injEq] at h; subst h; simp
theorem tokens_len (s : ByteArray) : (tokensOf s).1.length ≤ s.size := by
  unfold tokensOf
  split
  · simp
  · cases h : lexAll s with
    | error e => simp [finTok]
    | ok L => have := lexA_len s _ _ L h; simp only [finTok]; omega

theorem lexA_err (s : ByteArray) : ∀ (f k e : Nat), lexA f k s = .error e → k ≤ e ∧ e < s.size := by
  intro f
  induction f with
  | zero => intro k e h; simp [lexA] at h
  | succ f ih =>
    intro k e h
    unfold lexA at h
    split at h
    · rename_i hk
      simp only [] at h
      split at h
      · simp only [Except.error.injEq] at h; omega
      · revert h
        cases hr : lexA f _ s with
        | ok L' => intro h; cases h
        | error e' =>
          intro h
          simp only [consTok, Except.error.injEq] at h
          subst h
          have := ih _ _ hr
          omega
    · cases h
/-- a fault lies in the text -/
theorem tokens_fault (s : ByteArray) (L : List Tok) (A : Int) (h : tokensOf s = (L, 11, A)) : L = [] ∧ 0 ≤ A ∧ A < s.size := by
  unfold tokensOf at h
  split at h
  · simp at h
  · cases hl : lexAll s with
    | ok L => rw [hl] at h; simp [finTok] at h
    | error e =>
      rw [hl] at h
      simp only [finTok, Prod.mk.injEq, true_and] at h
      obtain ⟨rfl, rfl⟩ := h
      have := lexA_err s _ _ _ hl
      exact ⟨rfl, by omega, by omega⟩

def nlB : ByteArray := ⟨#[10]⟩
theorem nl_data (s t : ByteArray) : (s ++ nlB ++ t).data.toList = s.data.toList ++ 10 :: t.data.toList := by
  rw [ByteArray.data_append, ByteArray.data_append]; simp [nlB]
/-- what Tokens gives of a text, a newline, a text -/
theorem kinds_cases (s t : ByteArray) (h : s.size + t.size ≤ 3000) (La : List Tok) (Ea Aa : Int) (ha : tokensOf s = (La, Ea, Aa)) (Lb : List Tok) (Eb Ab : Int) (hb : tokensOf t = (Lb, Eb, Ab)) :
    (Ea = 11 ∧ La = [] ∧ tokensOf (s ++ nlB ++ t) = ([], 11, Aa)) ∨
    (Ea = 0 ∧ Aa = 0 ∧ Eb = 11 ∧ Lb = [] ∧ tokensOf (s ++ nlB ++ t) = ([], 11, Ab + s.size + 1)) ∨
    (Ea = 0 ∧ Aa = 0 ∧ Eb = 0 ∧ Ab = 0 ∧ tokensOf (s ++ nlB ++ t) = (La ++ Lb.map (shiftTok (s.size + 1)), 0, 0)) := by
  have hu := nl_data s t
  have hus : (s ++ nlB ++ t).size = s.size + 1 + t.size := by rw [Lib.size_eq, hu, List.length_append, List.length_cons, ← Lib.size_eq, ← Lib.size_eq]; omega
  have hl := lexAll_nl _ s t hu
  unfold tokensOf at ha hb ⊢
  rw [if_neg (by omega)] at ha hb
  rw [if_neg (by omega), hl]
  cases hra : lexAll s with
  | error e =>
    rw [hra] at ha
    simp only [finTok, Prod.mk.injEq] at ha
    obtain ⟨rfl, rfl, rfl⟩ := ha
    left; exact ⟨rfl, rfl, rfl⟩
  | ok l =>
    rw [hra] at ha
    simp only [finTok, Prod.mk.injEq] at ha
    obtain ⟨rfl, rfl, rfl⟩ := ha
    cases hrb : lexAll t with
    | error e =>
      rw [hrb] at hb
      simp only [finTok, Prod.mk.injEq] at hb
      obtain ⟨rfl, rfl, rfl⟩ := hb
      right; left
      refine ⟨rfl, rfl, rfl, rfl, ?_⟩
      simp only [thenR, shiftR, pre, finTok, Prod.mk.injEq, true_and]; push_cast; omega
    | ok l' =>
      rw [hrb] at hb
      simp only [finTok, Prod.mk.injEq] at hb
      obtain ⟨rfl, rfl, rfl⟩ := hb
      right; right
      exact ⟨rfl, rfl, rfl, rfl, rfl⟩

set_option maxRecDepth 20000 in
set_option maxHeartbeats 8000000 in
theorem lexKinds_near (s t : ByteArray) (w : World) (hs : s.size + t.size ≤ 3000) (hG : Glob w) :
    Calls Tryd.prog 6 #[.string s, .string t] w (lwPost w) := by
  obtain ⟨⟨La, Ea, Aa⟩, ha⟩ : ∃ r, tokensOf s = r := ⟨_, rfl⟩
  obtain ⟨⟨Lb, Eb, Ab⟩, hb⟩ : ∃ r, tokensOf t = r := ⟨_, rfl⟩
  have HC := Lib.hid (kinds_cases s t hs La Ea Aa ha Lb Eb Ab hb)
  have HO : Hid (∀ x ∈ La, tokOK x ∧ x.text.size ≤ s.size ∧ 0 ≤ x.pos ∧ x.pos < s.size) := Lib.hid (by have := tokens_OK s; rw [ha] at this; exact this)
  have HOB : Hid (∀ x ∈ Lb, tokOK x ∧ x.text.size ≤ t.size ∧ 0 ≤ x.pos ∧ x.pos < t.size) := Lib.hid (by have := tokens_OK t; rw [hb] at this; exact this)
  obtain ⟨na, hna⟩ : ∃ n, La.length = n := ⟨_, rfl⟩
  obtain ⟨nb, hnb⟩ : ∃ n, Lb.length = n := ⟨_, rfl⟩
  have hnaS : na ≤ s.size := by have : La.length ≤ s.size := (by have := tokens_len s; rw [ha] at this; exact this); omega
  have hnbS : nb ≤ t.size := by have : Lb.length ≤ t.size := (by have := tokens_len t; rw [hb] at this; exact this); omega
  have TA := Lib.hid (tokens_at s La na Ea Aa ha hna)
  have TB := Lib.hid (tokens_at t Lb nb Eb Ab hb hnb)
  have HF := Lib.hid (fun h : Eb = 11 => tokens_fault t Lb Ab (by rw [hb, h]))
  have HNA := Lib.hid hna
  have HNB := Lib.hid hnb
  clear ha hb hna hnb
  go_enter Tryd.func6, Tryd.ntmps6
  go_wp2_with fail
  refine (TA.out w (by omega) hG).mono ?_
  rintro e w1 ⟨A1, c1, rfl, hC1, hb1⟩
  have B1 := Lib.hid (hb1.trans ((alloc_keep w1 (.cells #[.int .i64 Ea, .int .i64 Aa] 26)).mono hb1.size))
  have G1 := hG.below B1.out
  have C1 := Kd.C_alloc hC1 (.cells #[.int .i64 Ea, .int .i64 Aa] 26)
  have p1 : (w1.alloc (.cells #[.int .i64 Ea, .int .i64 Aa] 26)).cell? ⟨w1.heap.size, 0, none⟩ = some (.int .i64 Ea) := by simp
  have q1 : (w1.alloc (.cells #[.int .i64 Ea, .int .i64 Aa] 26)).cell? ⟨w1.heap.size, 1, none⟩ = some (.int .i64 Aa) := by simp
  have C1 := Lib.hid C1
  have P1 := Lib.hid p1
  have Q1 := Lib.hid q1
  clear hC1 hb1 p1 q1
  go_wp2_with fail
  refine (TB.out _ (by omega) G1).mono ?_
  rintro e w2 ⟨A2, c2, rfl, hC2, hb2⟩
  have hbb := bl_then hb2 (alloc_keep w2 (.cells #[.int .i64 Eb, .int .i64 Ab] 26))
  have B2 := Lib.hid (bl_then B1.out hbb)
  have G2 := G1.below hbb
  have C2 := Lib.hid (Kd.C_alloc hC2 (.cells #[.int .i64 Eb, .int .i64 Ab] 26))
  have D1 := Lib.hid (Kd.C_below C1.out hbb)
  have P2 := Lib.hid (pw_cell_below hbb P1.out)
  have Q2 := Lib.hid (pw_cell_below hbb Q1.out)
  have p3 : (w2.alloc (.cells #[.int .i64 Eb, .int .i64 Ab] 26)).cell? ⟨w2.heap.size, 0, none⟩ = some (.int .i64 Eb) := by simp
  have q3 : (w2.alloc (.cells #[.int .i64 Eb, .int .i64 Ab] 26)).cell? ⟨w2.heap.size, 1, none⟩ = some (.int .i64 Ab) := by simp
  have P3 := Lib.hid p3
  have Q3 := Lib.hid q3
  clear hC2 hb2 hbb p3 q3 C1 P1 Q1 G1 B1 TA TB
  obtain ⟨W, hW⟩ : ∃ W, w2.alloc (.cells #[.int .i64 Eb, .int .i64 Ab] 26) = W := ⟨_, rfl⟩
  rw [hW] at G2 B2 C2 D1 P2 Q2 P3 Q3
  go_wp2_with fail
  clear hW
  go_loop [9] (fun i => ∃ k : Nat, i = .int .i64 k ∧ k ≤ na) (fun i => na - (intOf i).toNat)
  case atStart => exact ⟨0, rfl, Nat.zero_le _⟩
  case round =>
    obtain ⟨k, rfl, hk⟩ := hrel
    by_cases hlt : k < na
    · obtain ⟨ad, e0, x0, x1, x2⟩ := atTok D1.out k (by omega) (by omega)
      subst e0
      simp only [Int.toNat_natCast] at x0 x1 x2
      have hmem : La.getD k zTok ∈ La := by
        have hl := HNA.out
        rw [List.getD_eq_getElem?_getD, List.getElem?_eq_getElem (by omega)]; exact List.getElem_mem _
      have hx := HO.out _ hmem
      obtain ⟨⟨kd, tx, po⟩, hgt⟩ : ∃ t, La.getD k zTok = t := ⟨_, rfl⟩
      rw [hgt] at x0 x1 x2 hx
      simp only [] at x0 x1 x2 hx
      obtain ⟨hok, htx, _, _⟩ := hx
      have htz : tx.size ≤ 140737488351232 := by
        have : tx.size ≤ s.size := htx
        omega
      clear hmem hgt htx
      rcases hok with ⟨h1, h2⟩ | ⟨h1, h2⟩ | ⟨h1, h2⟩ | ⟨h1, h2, h3⟩
      · obtain rfl : kd = 1 := h1
        have h2 : wordB tx = true := h2
        cases hown : Lib.containsS wordsZ tx with
        | false =>
          have N := Lib.hid (isName_at tx true (by rw [isName_wordB, h2, hown]; rfl))
          clear h2 hown
          go_wp2_with (go_at_call 19; (with_reducible refine (N.out _ htz G2).mono ?_); rintro e w' ⟨rfl, rfl⟩)
          go_round
          case rel => exact ⟨k + 1, by go_num, by omega⟩
          case measure => simp [intOf]; omega
        | true =>
          have N := Lib.hid (isName_at tx false (by rw [isName_wordB, h2, hown]; rfl))
          have hm := (Lib.containsS_iff wordsZ tx).1 hown
          simp only [wordsZ, List.mem_cons, List.not_mem_nil, or_false] at hm
          have hl := fun l (h : tx = bs l) => (by rw [h, bs_toList] : tx.toList = l)
          clear h2 hown
          rcases hm with hm | hm | hm | hm | hm | hm
          all_goals
            have hl1 := hl _ hm
            clear hl hm
            go_wp2_with (go_at_call 19; (with_reducible refine (N.out _ htz G2).mono ?_); rintro e w' ⟨rfl, rfl⟩)
            go_round
            case rel => exact ⟨k + 1, by go_num, by omega⟩
            case measure => simp [intOf]; omega
      · obtain rfl : kd = 2 := h1
        have h2 : goodL tx = true := h2
        have N : Hid (∀ w : World, Glob w → Calls Tryd.prog 21 #[.string tx] w fun e w' => e = .returned (.bool true) ∧ w = w') := Lib.hid (fun w hG => by
          have := lgood_any tx w htz hG
          rwa [h2] at this)
        clear h2
        go_wp2_with (go_at_call 21; (with_reducible refine (N.out _ G2).mono ?_); rintro e w' ⟨rfl, rfl⟩)
        go_round
        case rel => exact ⟨k + 1, by go_num, by omega⟩
        case measure => simp [intOf]; omega
      · obtain rfl : kd = 3 := h1
        have h2 : tx.size = 1 := h2
        have e1 : ((tx.size : Int) == 1) = true := by simp; omega
        have e2 : (tx.size == 1) = true := by simp; omega
        clear h2
        go_wp2_with fail
        go_round
        case rel => exact ⟨k + 1, by go_num, by omega⟩
        case measure => simp [intOf]; omega
      · obtain rfl : kd = 4 := h1
        have h2 : 1 ≤ tx.size := h2
        have h3 : tx.size ≤ 200 := h3
        have e2 : decide ((tx.size : Int) ≤ 200) = true := by simp; omega
        go_wp2_with fail
        go_round
        case rel => exact ⟨k + 1, by go_num, by omega⟩
        case measure => simp [intOf]; omega
    · have hu : s ++ (⟨#[10]⟩ : ByteArray) ++ t = s ++ nlB ++ t := rfl
      have hus : (s ++ nlB ++ t).size ≤ 3001 := by
        rw [Lib.size_eq, nl_data, List.length_append, List.length_cons, ← Lib.size_eq, ← Lib.size_eq]; omega
      have HU := Lib.hid hu
      clear hu
      go_wp2_with fail
      rw [HU.out]
      rcases HC.out with ⟨h1, h2, h3⟩ | ⟨h1, h2, h3, h4, h5⟩ | ⟨h1, h2, h3, h4, h5⟩
      · have TU := Lib.hid (tokens_at _ [] 0 11 Aa h3 rfl)
        subst h1
        clear HC h2 h3
        refine (TU.out W (by omega) G2).mono ?_
        rintro e w3 ⟨A3, c3, rfl, hC3, hb3⟩
        have hbb := bl_then hb3 (alloc_keep w3 (.cells #[.int .i64 11, .int .i64 Aa] 26))
        have B3 := Lib.hid (bl_then B2.out hbb)
        have G3 := G2.below hbb
        have x1 := pw_cell_below hbb P2.out
        have x2 := pw_cell_below hbb Q2.out
        have y1 : (w3.alloc (.cells #[.int .i64 11, .int .i64 Aa] 26)).cell? ⟨w3.heap.size, 0, none⟩ = some (.int .i64 11) := by simp
        have y2 : (w3.alloc (.cells #[.int .i64 11, .int .i64 Aa] 26)).cell? ⟨w3.heap.size, 1, none⟩ = some (.int .i64 Aa) := by simp
        clear hb3 hC3 hbb
        go_wp2_with fail
        refine (lexWakes_any _ G3).mono ?_
        rintro e w4 ⟨rfl, hb4⟩
        have B4 := Lib.hid (bl_then B3.out hb4)
        clear hb4
        go_wp2_with fail
        go_ret
        exact ⟨rfl, B4.out⟩
      · have TU := Lib.hid (tokens_at _ [] 0 11 _ h5 rfl)
        obtain ⟨_, hA0, hA1⟩ := HF.out h3
        subst h1
        subst h2
        subst h3
        clear HC h4 h5 HF
        refine (TU.out W (by omega) G2).mono ?_
        rintro e w3 ⟨A3, c3, rfl, hC3, hb3⟩
        have hbb := bl_then hb3 (alloc_keep w3 (.cells #[.int .i64 11, .int .i64 (Ab + s.size + 1)] 26))
        have B3 := Lib.hid (bl_then B2.out hbb)
        have G3 := G2.below hbb
        have x1 := pw_cell_below hbb P2.out
        have x2 := pw_cell_below hbb Q2.out
        have z1 := pw_cell_below hbb P3.out
        have z2 := pw_cell_below hbb Q3.out
        have y1 : (w3.alloc (.cells #[.int .i64 11, .int .i64 (Ab + s.size + 1)] 26)).cell? ⟨w3.heap.size, 0, none⟩ = some (.int .i64 11) := by simp
        have y2 : (w3.alloc (.cells #[.int .i64 11, .int .i64 (Ab + s.size + 1)] 26)).cell? ⟨w3.heap.size, 1, none⟩ = some (.int .i64 (Ab + s.size + 1)) := by simp
        clear hb3 hC3 hbb
        go_wp2_with fail
        refine (lexWakes_any _ G3).mono ?_
        rintro e w4 ⟨rfl, hb4⟩
        have B4 := Lib.hid (bl_then B3.out hb4)
        clear hb4
        go_wp2_with fail
        go_ret
        exact ⟨rfl, B4.out⟩
      · have TU := Lib.hid (tokens_at _ (La ++ Lb.map (shiftTok (s.size + 1))) (na + nb) 0 0 h5 (by rw [List.length_append, List.length_map, HNA.out, HNB.out]))
        subst h1
        subst h2
        subst h3
        subst h4
        clear HC h5 HF
        refine (TU.out W (by omega) G2).mono ?_
        rintro e w3 ⟨A3, c3, rfl, hC3, hb3⟩
        have hbb := bl_then hb3 (alloc_keep w3 (.cells #[.int .i64 0, .int .i64 0] 26))
        have B3 := Lib.hid (bl_then B2.out hbb)
        have G3 := G2.below hbb
        have x1 := pw_cell_below hbb P2.out
        have x2 := pw_cell_below hbb Q2.out
        have z1 := pw_cell_below hbb P3.out
        have z2 := pw_cell_below hbb Q3.out
        have y1 : (w3.alloc (.cells #[.int .i64 0, .int .i64 0] 26)).cell? ⟨w3.heap.size, 0, none⟩ = some (.int .i64 0) := by simp
        have y2 : (w3.alloc (.cells #[.int .i64 0, .int .i64 0] 26)).cell? ⟨w3.heap.size, 1, none⟩ = some (.int .i64 0) := by simp
        have E1 := Lib.hid (Kd.C_below D1.out hbb)
        have E2 := Lib.hid (Kd.C_below C2.out hbb)
        have E3 := Lib.hid (Kd.C_alloc hC3 (.cells #[.int .i64 0, .int .i64 0] 26))
        clear hb3 hC3 hbb D1 C2
        have en : ((na : Int) + (nb : Int)) = ((na + nb : Nat) : Int) := by omega
        have en2 : (((na + nb : Nat) : Int) != (na : Int) + (nb : Int)) = false := by simp
        obtain ⟨nc, hnc⟩ : ∃ nc, na + nb = nc := ⟨_, rfl⟩
        rw [hnc] at en en2 E3
        rw [hnc]
        have hncS : nc ≤ 3000 := by omega
        have HNC := Lib.hid hnc
        clear hnc
        go_wp2_with fail
        generalize w3.alloc (.cells #[.int .i64 0, .int .i64 0] 26) = W3 at *
        clear x1 x2 z1 z2 y1 y2 en en2
        have hi3 : ∀ k : Nat, k < na → (La ++ Lb.map (shiftTok (s.size + 1))).getD k zTok = La.getD k zTok := by
          intro k hk
          have := HNA.out
          rw [List.getD_eq_getElem?_getD, List.getD_eq_getElem?_getD, List.getElem?_append_left (by omega)]
        have hi4 : ∀ k : Nat, na ≤ k → k < nc → (La ++ Lb.map (shiftTok (s.size + 1))).getD k zTok = shiftTok (s.size + 1) (Lb.getD (k - na) zTok) := by
          intro k hk hk2
          have h1 := HNA.out
          have h2 := HNB.out
          have h3 := HNC.out
          rw [List.getD_eq_getElem?_getD, List.getD_eq_getElem?_getD, List.getElem?_append_right (by omega), h1, List.getElem?_map, List.getElem?_eq_getElem (by omega)]
          rfl
        have HI3 := Lib.hid hi3
        have HI4 := Lib.hid hi4
        clear hi3 hi4
        go_loopw [14] (fun i wr => ∃ k : Nat, i = .int .i64 k ∧ k ≤ nc ∧ Hid (Below W3.heap.size W3 wr)) (fun i _ => nc - (intOf i).toNat)
        case atStart => exact ⟨0, rfl, Nat.zero_le _, Lib.hid (Below.refl _ _)⟩
        case round =>
          obtain ⟨k, rfl, hk, HB⟩ := hrel
          by_cases hlt : k < nc
          · obtain ⟨ad3, e3, x0, x1, x2⟩ := atTok (Kd.C_below E3.out HB.out) k (by omega) (by omega)
            subst e3
            simp only [Int.toNat_natCast] at x0 x1 x2
            have t0 := World.block_lt_of_cell? _ _ x0
            by_cases hka : k < na
            · obtain ⟨ad1, e1, y0, y1, y2⟩ := atTok (Kd.C_below E1.out HB.out) k (by omega) (by omega)
              subst e1
              simp only [Int.toNat_natCast] at y0 y1 y2
              have t1 := World.block_lt_of_cell? _ _ y0
              rw [HI3.out k hka] at x0 x1 x2
              obtain ⟨⟨ka, ta, pa⟩, hta⟩ : ∃ t, La.getD k zTok = t := ⟨_, rfl⟩
              rw [hta] at x0 x1 x2 y0 y1 y2
              simp only [] at x0 x1 x2 y0 y1 y2
              clear hta
              go_wp2_with fail
              go_quiet (fail)
              go_wp2_with fail
              go_roundw
              case rel => exact ⟨k + 1, by go_num, by omega, Lib.hid (by repeat (first | exact HB.out | refine bl_alloc ?_ _ | refine pw_below_drewN ?_ _))⟩
              case measure => simp [intOf]; omega
            · obtain ⟨j, hj⟩ : ∃ j, k = na + j := ⟨k - na, by omega⟩
              have hjb : j < nb := by have := HNC.out; omega
              obtain ⟨ad2, e2, y0, y1, y2⟩ := atTok (Kd.C_below E2.out HB.out) j (by omega) (by omega)
              subst e2
              simp only [Int.toNat_natCast] at y0 y1 y2
              have t1 := World.block_lt_of_cell? _ _ y0
              have hi := HI4.out k (by omega) hlt
              rw [show k - na = j by omega] at hi
              have hmem : Lb.getD j zTok ∈ Lb := by
                have hl := HNB.out
                rw [List.getD_eq_getElem?_getD, List.getElem?_eq_getElem (by omega)]; exact List.getElem_mem _
              have hx := HOB.out _ hmem
              obtain ⟨⟨kb, tb, pb⟩, htb⟩ : ∃ t, Lb.getD j zTok = t := ⟨_, rfl⟩
              rw [htb] at hi y0 y1 y2 hx
              rw [hi] at x0 x1 x2
              obtain ⟨_, _, hp0, hp1⟩ := hx
              replace hp0 : 0 ≤ pb := hp0
              replace hp1 : pb < t.size := hp1
              replace x0 : wr.cell? (ad3.add (k * 3)) = some (.int .i64 kb) := x0
              replace x1 : wr.cell? ⟨(ad3.add (k * 3)).block, (ad3.add (k * 3)).off + 1, none⟩ = some (.string tb) := x1
              replace x2 : wr.cell? ⟨(ad3.add (k * 3)).block, (ad3.add (k * 3)).off + 2, none⟩ = some (.int .i64 (pb + ((s.size : Int) + 1))) := x2
              simp only [] at y0 y1 y2
              have ekj : (k : Int) - (na : Int) = (j : Int) := by omega
              have hnk : ¬ ((k : Int) < (na : Int)) := by omega
              have HJ := Lib.hid hj
              clear hj hi hmem htb hka
              go_wp2_with fail
              go_quiet (fail)
              go_wp2_with fail
              go_roundw
              case rel => exact ⟨k + 1, by go_num, by omega, Lib.hid (by repeat (first | exact HB.out | refine bl_alloc ?_ _ | refine pw_below_drewN ?_ _))⟩
              case measure => simp [intOf]; omega
          · have B5 := Lib.hid (bl_then B3.out HB.out)
            go_wp2_with fail
            refine (lexWakes_any _ (G3.below HB.out)).mono ?_
            rintro e w4 ⟨rfl, hb4⟩
            have B4 := Lib.hid (bl_then B5.out hb4)
            clear hb4
            go_wp2_with fail
            go_ret
            exact ⟨rfl, B4.out⟩

set_option maxRecDepth 20000 in
set_option maxHeartbeats 1000000 in
theorem lexKinds_any (s t : ByteArray) (w : World) (hs : s.size ≤ 140737488351232) (ht : t.size ≤ 140737488351232) (hG : Glob w) :
    Calls Tryd.prog 6 #[.string s, .string t] w (lwPost w) := by
  by_cases hbig : 3000 < s.size + t.size
  · have hb : (3000 : Int) < (s.size : Int) + (t.size : Int) := by omega
    go_enter Tryd.func6, Tryd.ntmps6
    go_wp2_with fail
    refine (lexWakes_any w hG).mono ?_
    rintro e w1 ⟨rfl, hb⟩
    go_wp2_with fail
    go_ret
    exact ⟨rfl, hb⟩
  · exact lexKinds_near s t w (by omega) hG
end Go.Proofs.YtcajdkncohcaeaaDoor
