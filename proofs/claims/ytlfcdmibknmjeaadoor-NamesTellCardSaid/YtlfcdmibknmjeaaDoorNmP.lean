import Derived.Test.YtlfcdmibknmjeaaDoorNmM
namespace Go.Proofs.YtlfcdmibknmjeaaDoor.E
open Go Go.Proofs.YtlfcdmibknmjeaaDoor.Ev
/-! ### NamesTell: its small parts -/
theorem large_in' (d : Dcl) (l : List Dcl) (i : Int) (ht : d.2.2.2.2.2.2.1.length ≤ maxLen) : ∀ (n : Nat) (j s : Int), 0 ≤ j → j ≤ d.2.2.2.2.2.2.1.length → 0 ≤ s → s ≤ 50000 → (d.2.2.2.2.2.2.1.length : Int) - j ≤ n →
    Evw (fun k => keep_LargeScript.l0 k d l s i j) fun y => y.1 = l ∧ s ≤ y.2.1 ∧ y.2.1 ≤ 50000 ∧ y.2.2 = i ∧ (y.2.1 ≤ 6000 → s + ((d.2.2.2.2.2.2.1.length : Int) - j) ≤ y.2.1) := by
  unfold maxLen at ht
  intro n
  induction n with
  | zero =>
    intro j s h0 h0' h1 h2 h3
    refine .succ ?_
    simp only [keep_LargeScript.l0, keep_LargeScript.b0]
    exact .df (by omega) (.pure ⟨rfl, Int.le_refl _, h2, rfl, fun _ => by show s + _ ≤ s; omega⟩)
  | succ n ih =>
    intro j s h0 h0' h1 h2 h3
    refine .succ ?_
    simp only [keep_LargeScript.l0, keep_LargeScript.b0]
    refine .dec (fun hi => .dec (fun hs => .dt (by omega) (.dt (by omega) ?_)) fun hs => .pure ⟨rfl, Int.le_refl _, h2, rfl, fun h => absurd h hs⟩) fun hi => .pure ⟨rfl, Int.le_refl _, h2, rfl, fun _ => by show s + _ ≤ s; omega⟩
    have a := mn6 (ByteArray.size (rdL (Ty.zero api_Node) d.2.2.2.2.2.2.1 j).2.2.2.2.1)
    have b := mn6 (ByteArray.size (rdL (Ty.zero api_Node) d.2.2.2.2.2.2.1 j).2.2.2.2.2.1)
    generalize mnI (((ByteArray.size (rdL (Ty.zero api_Node) d.2.2.2.2.2.2.1 j).2.2.2.2.1) : Nat) : Int) 6000 = A at a ⊢
    generalize mnI (((ByteArray.size (rdL (Ty.zero api_Node) d.2.2.2.2.2.2.1 j).2.2.2.2.2.1) : Nat) : Int) 6000 = B at b ⊢
    rw [wrap64 (n := 1 + A) (by omega) (by omega), wrap64 (n := 1 + A + B) (by omega) (by omega), wrap64 (n := s + (1 + A + B)) (by omega) (by omega), wrap64 (n := j + 1) (by omega) (by omega)]
    exact (ih _ _ (by omega) (by omega) (by omega) (by omega) (by omega)).mono fun y hy => ⟨hy.1, by omega, hy.2.2.1, hy.2.2.2.1, fun h => by have := hy.2.2.2.2 h; omega⟩
theorem large_out' {l : List Dcl} (h : ScriptOk l) : ∀ (n : Nat) (i s : Int), 0 ≤ i → i ≤ s → i ≤ l.length → s ≤ 50000 → (l.length : Int) - i ≤ n →
    Evw (fun k => keep_LargeScript.l1 k l s i) fun r => s ≤ r ∧ (r ≤ 6000 → (l.length : Int) ≤ 6000 ∧ ∀ d ∈ l.drop i.toNat, d.2.2.2.2.2.2.1.length ≤ 6000) := by
  have hl := h.len
  unfold maxLen at hl
  have nil : ∀ i : Int, 0 ≤ i → ¬ i < l.length → ∀ d ∈ l.drop i.toNat, d.2.2.2.2.2.2.1.length ≤ 6000 := fun i h0 hi d hd => by
    rw [List.drop_eq_nil_of_le (by omega)] at hd
    cases hd
  intro n
  induction n with
  | zero =>
    intro i s h0 h1 h2 h3 h4
    refine .succ ?_
    simp only [keep_LargeScript.l1, keep_LargeScript.b1]
    exact .df (by omega) (.pure ⟨Int.le_refl _, fun hr => ⟨by omega, nil i h0 (by omega)⟩⟩)
  | succ n ih =>
    intro i s h0 h1 h2 h3 h4
    refine .succ ?_
    simp only [keep_LargeScript.l1, keep_LargeScript.b1]
    refine .dec (fun hi => .dec (fun hs => .dt (by omega) ?_) fun hs => .pure ⟨Int.le_refl _, fun hr => by omega⟩) fun hi => .pure ⟨Int.le_refl _, fun hr => ⟨by omega, nil i h0 hi⟩⟩
    have hd := h.decl _ (rdL_mem (Ty.zero api_Decl) l i h0 hi)
    rw [rdL_drop (Ty.zero api_Decl) l i h0 hi]
    have a := mn6 (ByteArray.size (rdL (Ty.zero api_Decl) l i).2.1)
    have b := mn6 (ByteArray.size (rdL (Ty.zero api_Decl) l i).2.2.1)
    have c := mn6 (ByteArray.size (rdL (Ty.zero api_Decl) l i).2.2.2.1)
    have d := mn6 (ByteArray.size (rdL (Ty.zero api_Decl) l i).2.2.2.2.1)
    have e := mn6 (ByteArray.size (rdL (Ty.zero api_Decl) l i).2.2.2.2.2.1)
    generalize mnI (((ByteArray.size (rdL (Ty.zero api_Decl) l i).2.1) : Nat) : Int) 6000 = A at a ⊢
    generalize mnI (((ByteArray.size (rdL (Ty.zero api_Decl) l i).2.2.1) : Nat) : Int) 6000 = B at b ⊢
    generalize mnI (((ByteArray.size (rdL (Ty.zero api_Decl) l i).2.2.2.1) : Nat) : Int) 6000 = C at c ⊢
    generalize mnI (((ByteArray.size (rdL (Ty.zero api_Decl) l i).2.2.2.2.1) : Nat) : Int) 6000 = D at d ⊢
    generalize mnI (((ByteArray.size (rdL (Ty.zero api_Decl) l i).2.2.2.2.2.1) : Nat) : Int) 6000 = F at e ⊢
    rw [wrap64 (n := 1 + A) (by omega) (by omega), wrap64 (n := 1 + A + B) (by omega) (by omega), wrap64 (n := 1 + A + B + C) (by omega) (by omega), wrap64 (n := 1 + A + B + C + D) (by omega) (by omega), wrap64 (n := 1 + A + B + C + D + F) (by omega) (by omega), wrap64 (n := s + (1 + A + B + C + D + F)) (by omega) (by omega)]
    refine .bind (large_in' _ l i hd.trees (List.length (rdL (Ty.zero api_Decl) l i).2.2.2.2.2.2.1) 0 _ (by omega) (by omega) (by omega) (by omega) (by omega)) fun y hy => ?_
    obtain ⟨y1, y2, y3, y4, y5⟩ := hy
    rw [y1, y4, wrap64 (n := i + 1) (by omega) (by omega)]
    refine (ih _ _ (by omega) (by omega) (by omega) (by omega) (by omega)).mono fun r hr => ⟨by omega, fun h => ?_⟩
    obtain ⟨k1, k2⟩ := hr.2 h
    refine ⟨k1, fun x hx => ?_⟩
    rcases List.mem_cons.1 hx with rfl | hx
    · have := y5 (by omega); omega
    · exact k2 x hx
theorem large_ev' {l : List Dcl} (h : ScriptOk l) : Evw (fun k => keep_LargeScript.f k l) fun b => b = false → l.length ≤ 6000 ∧ ∀ d ∈ l, d.2.2.2.2.2.2.1.length ≤ 6000 := by
  unfold keep_LargeScript.f keep_LargeScript.b
  refine .bind (large_out' h l.length 0 0 (by omega) (by omega) (by omega) (by omega) (by omega)) fun y hy => .pure fun hb => ?_
  have : ¬ y > 6000 := by simpa using hb
  obtain ⟨k1, k2⟩ := hy.2 (by omega)
  exact ⟨by omega, fun d hd => k2 d (by simpa using hd)⟩
def sourcesD (l : List Dcl) : List ByteArray := (l.filter fun d => d.1 == (2 : Int)).map fun d => d.2.1
theorem src_t {d : Dcl} {l : List Dcl} (h : (d.1 == (2 : Int)) = true) : sourcesD (d :: l) = d.2.1 :: sourcesD l := by unfold sourcesD; rw [List.filter_cons]; simp only [h, if_true, List.map_cons]
theorem src_f {d : Dcl} {l : List Dcl} (h : (d.1 == (2 : Int)) = false) : sourcesD (d :: l) = sourcesD l := by unfold sourcesD; rw [List.filter_cons]; simp [h]
theorem src_l {l : List Dcl} (hl : l.length ≤ 6000) : ∀ (m : Nat) (i : Int) (acc : List ByteArray), 0 ≤ i → acc.length ≤ i → i ≤ l.length → (l.length : Int) - i ≤ m →
    Evw (fun k => names_Sources.l0 k acc l l.length i) (· = acc ++ sourcesD (l.drop i.toNat)) := by
  intro m
  induction m with
  | zero =>
    intro i acc h0 h1 h2 h3
    refine .succ ?_
    simp only [names_Sources.l0, names_Sources.b0]
    rw [List.drop_eq_nil_of_le (by omega)]
    exact .df (by omega) (.pure (by simp [sourcesD]))
  | succ m ih =>
    intro i acc h0 h1 h2 h3
    refine .succ ?_
    simp only [names_Sources.l0, names_Sources.b0]
    refine .dec (fun hi => .dt ⟨h0, hi⟩ ?_) fun hi => .pure (by rw [List.drop_eq_nil_of_le (by omega)]; simp [sourcesD])
    rw [wrap64 (by omega) (by omega), rdL_drop (Ty.zero api_Decl) l i h0 hi]
    cases hc : ((rdL (Ty.zero api_Decl) l i).1 == (2 : Int)) with
    | true =>
      refine .ct rfl (.dt (by simp; omega) ?_)
      have := ih (i + 1) (acc ++ [(rdL (Ty.zero api_Decl) l i).2.1]) (by omega) (by simp; omega) (by omega) (by omega)
      rw [src_t hc]
      rw [List.append_assoc] at this
      exact this
    | false =>
      refine .cf rfl ?_
      have := ih (i + 1) acc (by omega) (by omega) (by omega) (by omega)
      rw [src_f hc]
      exact this
theorem src_ev {l : List Dcl} (hl : l.length ≤ 6000) : Evw (fun k => names_Sources.f k l) (· = sourcesD l) := by
  unfold names_Sources.f names_Sources.b
  exact .ret (src_l hl l.length 0 [] (by omega) (by simp) (by omega) (by omega))
theorem rsrc_l {l : List Dcl} (hl : l.length ≤ 6000) : ∀ (m : Nat) (i : Int) (acc : List ByteArray), 0 ≤ i → acc.length ≤ i → i ≤ l.length → (l.length : Int) - i ≤ m →
    Evw (fun k => ref17_Sources.l0 k l acc i) (· = acc ++ sourcesD (l.drop i.toNat)) := by
  intro m
  induction m with
  | zero =>
    intro i acc h0 h1 h2 h3
    refine .succ ?_
    simp only [ref17_Sources.l0, ref17_Sources.b0]
    rw [List.drop_eq_nil_of_le (by omega)]
    exact .df (by omega) (.pure (by simp [sourcesD]))
  | succ m ih =>
    intro i acc h0 h1 h2 h3
    refine .succ ?_
    simp only [ref17_Sources.l0, ref17_Sources.b0]
    refine .dec (fun hi => .dt ⟨h0, hi⟩ ?_) fun hi => .pure (by rw [List.drop_eq_nil_of_le (by omega)]; simp [sourcesD])
    rw [wrap64 (by omega) (by omega), rdL_drop (Ty.zero api_Decl) l i h0 hi]
    cases hc : ((rdL (Ty.zero api_Decl) l i).1 == (2 : Int)) with
    | true =>
      refine .ct rfl (.dt ⟨h0, hi⟩ (.dt (by simp; omega) ?_))
      have := ih (i + 1) (acc ++ [(rdL (Ty.zero api_Decl) l i).2.1]) (by omega) (by simp; omega) (by omega) (by omega)
      rw [src_t hc]
      rw [List.append_assoc] at this
      exact this
    | false =>
      refine .cf rfl ?_
      have := ih (i + 1) acc (by omega) (by omega) (by omega) (by omega)
      rw [src_f hc]
      exact this
theorem rsrc_ev {l : List Dcl} (hl : l.length ≤ 6000) : Evw (fun k => ref17_Sources.f k l) (· = sourcesD l) := by
  unfold ref17_Sources.f ref17_Sources.b
  exact .ret (rsrc_l hl l.length 0 [] (by omega) (by simp) (by omega) (by omega))
/-! what is alike to itself -/
theorem sref (a : ByteArray) : strEq a a = true := strEq_iff.2 rfl
theorem texts_ev {a : List ByteArray} (ha : a.length ≤ 6000) : Evw (fun k => keep_Texts.f k a a) (· = true) := by
  unfold keep_Texts.f keep_Texts.b
  have lp : ∀ (m : Nat) (i : Int), 0 ≤ i → (a.length : Int) - i ≤ m → Evw (fun k => keep_Texts.l0 k a a i) (· = Sum.inl ()) := by
    intro m
    induction m with
    | zero => intro i h0 h2; refine .succ ?_; simp only [keep_Texts.l0, keep_Texts.b0]; exact .df (by omega) (.pure rfl)
    | succ m ih =>
      intro i h0 h2
      refine .succ ?_
      simp only [keep_Texts.l0, keep_Texts.b0]
      refine .dec (fun hi => .dt ⟨h0, hi⟩ (.dt ⟨h0, hi⟩ (.cf (by rw [sref]; rfl) ?_))) fun _ => .pure rfl
      rw [wrap64 (by omega) (by omega)]
      exact ih _ (by omega) (by omega)
  exact .cf (by simp) (.bindv (lp a.length 0 (by omega) (by omega)) (.pure rfl))
theorem eqv_node (x : api_Node.denote) : eqv api_Node x x = true := by
  obtain ⟨a, b, c, d, e, f, g, u⟩ := x
  show ((a == a) && ((b == b) && ((c == c) && ((d == d) && (strEq e e && (strEq f f && ((g == g) && true))))))) = true
  simp [sref]
theorem tree_self {a : List api_Node.denote} (ha : a.length ≤ 6000) : Evw (fun k => keep_Tree.f k a a) (· = true) := by
  unfold keep_Tree.f keep_Tree.b
  have lp : ∀ (m : Nat) (i : Int), 0 ≤ i → (a.length : Int) - i ≤ m → Evw (fun k => keep_Tree.l0 k a a i) (· = Sum.inl ()) := by
    intro m
    induction m with
    | zero => intro i h0 h2; refine .succ ?_; simp only [keep_Tree.l0, keep_Tree.b0]; exact .df (by omega) (.pure rfl)
    | succ m ih =>
      intro i h0 h2
      refine .succ ?_
      simp only [keep_Tree.l0, keep_Tree.b0]
      refine .dec (fun hi => .dt ⟨h0, hi⟩ (.dt ⟨h0, hi⟩ (.cf (by rw [eqv_node]; rfl) ?_))) fun _ => .pure rfl
      rw [wrap64 (by omega) (by omega)]
      exact ih _ (by omega) (by omega)
  exact .cf (by simp) (.bindv (lp a.length 0 (by omega) (by omega)) (.pure rfl))
theorem decl_self {d : Dcl} (hd : d.2.2.2.2.2.2.1.length ≤ 6000) : Evw (fun k => keep_Decl.f k d d) (· = true) := by
  unfold keep_Decl.f keep_Decl.b
  exact .ret (.ct (by simp) (.ct (sref _) (.ct (sref _) (.ct (sref _) (.ct (sref _) (.ct (sref _) (.bindv (tree_self hd) (.ct rfl (.ct (by simp) (.pure (by simp)))))))))))
theorem script_self {l : List Dcl} (hl : l.length ≤ 6000) (ht : ∀ d ∈ l, d.2.2.2.2.2.2.1.length ≤ 6000) : Evw (fun k => keep_Script.f k l l) (· = true) := by
  unfold keep_Script.f keep_Script.b
  have lp : ∀ (m : Nat) (i : Int), 0 ≤ i → (l.length : Int) - i ≤ m → Evw (fun k => keep_Script.l0 k l l i) (· = Sum.inl ()) := by
    intro m
    induction m with
    | zero => intro i h0 h2; refine .succ ?_; simp only [keep_Script.l0, keep_Script.b0]; exact .df (by omega) (.pure rfl)
    | succ m ih =>
      intro i h0 h2
      refine .succ ?_
      simp only [keep_Script.l0, keep_Script.b0]
      refine .dec (fun hi => .dt ⟨h0, hi⟩ (.dt ⟨h0, hi⟩ (.bindv (decl_self (ht _ (rdL_mem _ l i h0 hi))) (.cf rfl ?_)))) fun _ => .pure rfl
      rw [wrap64 (by omega) (by omega)]
      exact ih _ (by omega) (by omega)
  exact .cf (by simp) (.bindv (lp l.length 0 (by omega) (by omega)) (.pure rfl))
end Go.Proofs.YtlfcdmibknmjeaaDoor.E
