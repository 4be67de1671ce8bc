import Derived.Test.YtlfcdmibknmjeaaDoorNmD
namespace Go.Proofs.YtlfcdmibknmjeaaDoor.E
open Go Go.Proofs.YtlfcdmibknmjeaaDoor.Ev
/-! ### a script that is too large -/
theorem mn6 (a : Nat) : 0 ≤ mnI (a : Int) 6000 ∧ mnI (a : Int) 6000 ≤ 6000 := by unfold mnI; split <;> omega
theorem large_in (d : api_Decl.denote) (l : List api_Decl.denote) (i : Int) (ht : d.2.2.2.2.2.2.1.length ≤ maxLen) : ∀ (n : Nat) (j s : Int), 0 ≤ j → 0 ≤ s → s ≤ 50000 → (d.2.2.2.2.2.2.1.length : Int) - j ≤ n →
    Evw (fun k => keep_LargeScript.l0 k d l s i j) fun y => y.1 = l ∧ s ≤ y.2.1 ∧ y.2.1 ≤ 50000 ∧ y.2.2 = i := by
  unfold maxLen at ht
  intro n
  induction n with
  | zero =>
    intro j s h0 h1 h2 h3
    refine .succ ?_
    simp only [keep_LargeScript.l0, keep_LargeScript.b0]
    exact .df (by omega) (.pure ⟨rfl, Int.le_refl _, h2, rfl⟩)
  | succ n ih =>
    intro j s h0 h1 h2 h3
    refine .succ ?_
    simp only [keep_LargeScript.l0, keep_LargeScript.b0]
    refine .dec (fun hi => .dec (fun hs => .dt (by omega) (.dt (by omega) ?_)) fun _ => .pure ⟨rfl, Int.le_refl _, h2, rfl⟩) fun _ => .pure ⟨rfl, Int.le_refl _, h2, rfl⟩
    have a := mn6 (ByteArray.size (rdL (Ty.zero api_Node) d.2.2.2.2.2.2.1 j).2.2.2.2.1)
    have b := mn6 (ByteArray.size (rdL (Ty.zero api_Node) d.2.2.2.2.2.2.1 j).2.2.2.2.2.1)
    generalize mnI (((ByteArray.size (rdL (Ty.zero api_Node) d.2.2.2.2.2.2.1 j).2.2.2.2.1) : Nat) : Int) 6000 = A at a ⊢
    generalize mnI (((ByteArray.size (rdL (Ty.zero api_Node) d.2.2.2.2.2.2.1 j).2.2.2.2.2.1) : Nat) : Int) 6000 = B at b ⊢
    rw [wrap64 (n := 1 + A) (by omega) (by omega), wrap64 (n := 1 + A + B) (by omega) (by omega), wrap64 (n := s + (1 + A + B)) (by omega) (by omega), wrap64 (n := j + 1) (by omega) (by omega)]
    exact (ih _ _ (by omega) (by omega) (by omega) (by omega)).mono fun y hy => ⟨hy.1, by omega, hy.2.2.1, hy.2.2.2⟩
theorem large_out {l : List api_Decl.denote} (h : ScriptOk l) : ∀ (n : Nat) (i s : Int), 0 ≤ i → i ≤ s → i ≤ l.length → s ≤ 50000 → (l.length : Int) - i ≤ n →
    Evw (fun k => keep_LargeScript.l1 k l s i) fun r => r ≤ 6000 → (l.length : Int) ≤ 6000 := by
  have hl := h.len
  unfold maxLen at hl
  intro n
  induction n with
  | zero =>
    intro i s h0 h1 h2 h3 h4
    refine .succ ?_
    simp only [keep_LargeScript.l1, keep_LargeScript.b1]
    exact .df (by omega) (.pure fun hr => by omega)
  | succ n ih =>
    intro i s h0 h1 h2 h3 h4
    refine .succ ?_
    simp only [keep_LargeScript.l1, keep_LargeScript.b1]
    refine .dec (fun hi => .dec (fun hs => .dt (by omega) ?_) fun hs => .pure fun hr => by omega) fun hi => .pure fun hr => by omega
    have hd := h.decl _ (rdL_mem (Ty.zero api_Decl) l i h0 hi)
    have a := mn6 (ByteArray.size (rdL (Ty.zero api_Decl) l i).2.1)
    have b := mn6 (ByteArray.size (rdL (Ty.zero api_Decl) l i).2.2.1)
    have c := mn6 (ByteArray.size (rdL (Ty.zero api_Decl) l i).2.2.2.1)
    have d := mn6 (ByteArray.size (rdL (Ty.zero api_Decl) l i).2.2.2.2.1)
    have e := mn6 (ByteArray.size (rdL (Ty.zero api_Decl) l i).2.2.2.2.2.1)
    generalize mnI (((ByteArray.size (rdL (Ty.zero api_Decl) l i).2.1) : Nat) : Int) 6000 = A at a ⊢
    generalize mnI (((ByteArray.size (rdL (Ty.zero api_Decl) l i).2.2.1) : Nat) : Int) 6000 = B at b ⊢
    generalize mnI (((ByteArray.size (rdL (Ty.zero api_Decl) l i).2.2.2.1) : Nat) : Int) 6000 = C at c ⊢
    generalize mnI (((ByteArray.size (rdL (Ty.zero api_Decl) l i).2.2.2.2.1) : Nat) : Int) 6000 = D at d ⊢
    generalize mnI (((ByteArray.size (rdL (Ty.zero api_Decl) l i).2.2.2.2.2.1) : Nat) : Int) 6000 = F at e ⊢
    rw [wrap64 (n := 1 + A) (by omega) (by omega), wrap64 (n := 1 + A + B) (by omega) (by omega), wrap64 (n := 1 + A + B + C) (by omega) (by omega), wrap64 (n := 1 + A + B + C + D) (by omega) (by omega), wrap64 (n := 1 + A + B + C + D + F) (by omega) (by omega), wrap64 (n := s + (1 + A + B + C + D + F)) (by omega) (by omega)]
    refine .bind (large_in _ l i hd.trees (List.length (rdL (Ty.zero api_Decl) l i).2.2.2.2.2.2.1) 0 _ (by omega) (by omega) (by omega) (by omega)) fun y hy => ?_
    rw [hy.1, hy.2.2.2, wrap64 (n := i + 1) (by omega) (by omega)]
    exact ih _ _ (by omega) (by omega) (by omega) (by omega) (by omega)
theorem large_ev {l : List api_Decl.denote} (h : ScriptOk l) : Evw (fun k => keep_LargeScript.f k l) fun b => b = false → l.length ≤ 6000 := by
  unfold keep_LargeScript.f keep_LargeScript.b
  refine .bind (large_out h l.length 0 0 (by omega) (by omega) (by omega) (by omega) (by omega)) fun y hy => .pure fun hb => ?_
  have : ¬ y > 6000 := by simpa using hb
  have := hy (by omega)
  omega
theorem wakes_ev : Evw (fun k => law17_wakes.f k) (· = true) := .of (K := 100) fun k => by kernel_rfl
theorem wakes_ret {Q : Bool → Prop} (h : Q true) : Evw (fun k => Option.bind (law17_wakes.f k) fun y => some y) Q := .bind wakes_ev fun y hy => .pure (by rw [hy]; exact h)
theorem scriptOk {l : List api_Decl.denote} (h : Wf (.list api_Decl) l) : ScriptOk l :=
  ⟨fun d hd => by
    obtain ⟨_, h1, h2, h3, h4, _, ⟨h6, h7⟩, _⟩ := h.2 d hd
    exact ⟨h1, h2, h3, h4, fun n hn => by obtain ⟨_, _, _, _, h8, _⟩ := h7 n hn; exact h8, h6⟩, h.1⟩
/-! ### NamesFirst -/
theorem ScriptOk.take {l : List api_Decl.denote} (h : ScriptOk l) (n : Nat) : ScriptOk (l.take n) := ⟨fun d hd => h.decl d (List.mem_of_mem_take hd), by have := h.len; rw [List.length_take]; omega⟩
theorem checkL_take : ∀ (l : List api_Decl.denote) (s : Kno) (n : Nat) (f : Flt), checkL s (l.take n) = some f → checkL s l = some f
  | [], s, n, f, h => by simpa using h
  | d :: l, s, 0, f, h => by cases h
  | d :: l, s, n + 1, f, h => by
    rw [List.take_succ_cons, checkL] at h
    rw [checkL]
    cases hc : (askD s d).2.1 != (0 : Int) with
    | true => rw [hc] at h; exact h
    | false => rw [hc] at h; exact checkL_take l _ n f h
theorem mayD_take {l : List api_Decl.denote} (n : Nat) (h : mayD l = true) : mayD (l.take n) = true := by
  unfold mayD at h ⊢
  simp only [Bool.and_eq_true, List.all_eq_true, decide_eq_true_eq] at h ⊢
  have : (l.take n).length ≤ l.length := by rw [List.length_take]; omega
  exact ⟨fun d hd => h.1 d (List.mem_of_mem_take hd), by omega⟩
theorem eqv_fault (x : Flt) : eqv api_Fault x x = true := by
  obtain ⟨a, b, c⟩ := x
  show ((a == a) && ((b == b) && true)) = true
  simp
theorem first_prefix {l : List api_Decl.denote} {n : Nat} (h : (checkD l).1 ≠ (1 : Int)) (h' : (checkD (l.take n)).1 ≠ (0 : Int)) : checkD l = checkD (l.take n) := by
  unfold checkD at h h' ⊢
  cases hm : mayD l with
  | false => rw [hm] at h; exact absurd rfl h
  | true =>
    rw [mayD_take n hm] at h' ⊢
    show (checkL ⟨[], [], []⟩ l).getD _ = (checkL ⟨[], [], []⟩ (l.take n)).getD _
    cases hc : checkL ⟨[], [], []⟩ (l.take n) with
    | none => exact absurd (by show ((checkL ⟨[], [], []⟩ (l.take n)).getD _).1 = (0 : Int); rw [hc]; rfl) h'
    | some f => rw [checkL_take l _ n f hc]
theorem first_pure {l : List api_Decl.denote} (h : ScriptOk l) {n : Int} (hn : 0 ≤ n ∧ n ≤ 255) : Evw (fun k => law17_NamesFirst.f k l n) (· = true) := by
  unfold law17_NamesFirst.f law17_NamesFirst.b
  refine .bind (large_ev h) fun b hb => .cond (fun _ => wakes_ret rfl) fun hf => .cond (fun _ => wakes_ret rfl) fun _ => ?_
  have hlen := hb hf
  refine .bind (checkD_ev h) fun f hf => ?_
  rw [wrap64 (n := n) (by omega) (by omega), wrap64 (n := (l.length : Int) + 1) (by omega) (by omega)]
  have t0 : 0 ≤ Int.tmod n ((l.length : Int) + 1) := Int.tmod_nonneg _ hn.1
  have t1 : Int.tmod n ((l.length : Int) + 1) < (l.length : Int) + 1 := Int.tmod_lt_of_pos _ (by omega)
  refine .df (by omega) (.dt (by omega) (.bind (checkD_ev (h.take _)) fun g hg => ?_))
  refine .cond (fun _ => wakes_ret rfl) fun h1 => .cond (fun h2 => ?_) fun _ => wakes_ret rfl
  rw [hf] at h1 ⊢
  rw [hg] at h2 ⊢
  rw [first_prefix (by simpa using h1) (by simpa using h2), eqv_fault]
  exact wakes_ret rfl
end Go.Proofs.YtlfcdmibknmjeaaDoor.E
