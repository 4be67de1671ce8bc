import Derived.Test.YtlfcdmibknmjeaaDoorNmB
namespace Go.Proofs.YtlfcdmibknmjeaaDoor.E
open Go Go.Proofs.YtlfcdmibknmjeaaDoor.Ev
theorem FromOk.snoc {l : List Int} (h : FromOk l) (h' : l.length < 2000) {x : Int} (h0 : 0 ≤ x) (h1 : x ≤ l.length) : FromOk (l ++ [x]) := by
  refine ⟨by simp; omega, fun i hi => ?_⟩
  simp only [List.length_append, List.length_singleton] at hi
  by_cases hc : i < l.length
  · rw [List.getElem_append_left hc]; exact h.2 i hc
  · have : i = l.length := by omega
    subst this
    rw [List.getElem_append_right (Nat.le_refl _)]
    simp only [Nat.sub_self, List.getElem_cons_zero]
    exact ⟨h0, h1⟩
theorem treeGood_l (t : List api_Node.denote) (ht : t.length ≤ 2000) (hn : ∀ n ∈ t, NodeOk n) : ∀ (n : Nat) (i : Int) (l : List Int), (l.length : Int) = i → FromOk l → (t.length : Int) - i ≤ n → i ≤ t.length →
    Evw (fun k => tree_Good.l0 k t l t t.length i) fun r => ∀ y, r = Sum.inl y → y.1 = t ∧ y.2.length = t.length := by
  intro n
  induction n with
  | zero =>
    intro i l h1 h2 h3 h4
    refine .succ ?_
    simp only [tree_Good.l0, tree_Good.b0]
    exact .df (by omega) (.pure fun y hy => by cases hy; exact ⟨rfl, by show l.length = _; omega⟩)
  | succ n ih =>
    intro i l h1 h2 h3 h4
    refine .succ ?_
    simp only [tree_Good.l0, tree_Good.b0]
    refine .dec (fun hi => .dt (by omega) ?_) fun _ => .pure fun y hy => by cases hy; exact ⟨rfl, by show l.length = _; omega⟩
    have hm : rdL (Ty.zero api_Node) t i ∈ t := by
      have hi' : i.toNat < t.length := by omega
      rw [show rdL (Ty.zero api_Node) t i = t[i.toNat] by simp [rdL, List.getD_eq_getElem?_getD, List.getElem?_eq_getElem hi']]
      exact List.getElem_mem _
    refine .bind (begin_tot _ l h2 (hn _ hm)) fun y hy => .cond (fun _ => .pure fun y hy => by cases hy) fun hc => ?_
    have hy := hy (by simpa using hc)
    refine .dt (by simp; omega) ?_
    rw [wrap64 (by omega) (by omega)]
    exact ih _ _ (by simp; omega) (h2.snoc (by omega) hy.1 hy.2) (by omega) (by omega)
theorem treeGood_tot (t : List api_Node.denote) (hn : ∀ n ∈ t, NodeOk n) : Evw (fun k => tree_Good.f k t) fun _ => True := by
  unfold tree_Good.f tree_Good.b
  refine .dec (fun _ => .pure trivial) fun h1 => .dec (fun _ => .pure trivial) fun h2 => ?_
  refine .bind (treeGood_l t (by omega) hn t.length 0 [] rfl ⟨by simp, fun i hi => by cases hi⟩ (by omega) (by omega)) fun r hr => ?_
  cases r with
  | inr b => exact .pure trivial
  | inl y =>
    obtain ⟨e, hl⟩ := hr y rfl
    obtain ⟨a, b⟩ := y
    have e : a = t := e
    have hl : b.length = t.length := hl
    subst e
    show Evw (fun _ => _root_.cond _ _ _) _
    refine .dt ?_ (.pure trivial)
    show 0 ≤ IntKind.wrap .i64 ((a.length : Int) - 1) ∧ IntKind.wrap .i64 ((a.length : Int) - 1) < b.length
    rw [wrap64 (by omega) (by omega)]
    omega
theorem unit_tot (s : ByteArray) : Evw (fun k => write_unit.f k s) fun _ => True := by
  unfold write_unit.f write_unit.b tree_Lit.f tree_Lit.b tree_told.f tree_told.b
  refine .bind (R := fun _ => True) (.bind (R := fun _ => True) (.bind (treeGood_tot _ ?_) fun _ _ => .cond (fun _ => .pure trivial) fun _ => .pure trivial) fun y _ => ?_) fun _ _ => .pure trivial
  · intro n hn
    rw [List.mem_singleton] at hn
    subst hn
    show ByteArray.size ⟨#[48]⟩ ≤ maxLen
    decide
  · cases y <;> exact .pure trivial
/-! ### a declaration that may be -/
noncomputable def isN (s : ByteArray) : Bool := outOf fun k => lex_IsName.f k s
noncomputable def unitB (s : ByteArray) : Bool := outOf fun k => write_unit.f k s
noncomputable def numB (s : ByteArray) : Bool := outOf fun k => write_num.f k s
noncomputable def treeB (t : List api_Node.denote) : Bool := outOf fun k => tree_Good.f k t
theorem isN_ev {s : ByteArray} (h : s.size ≤ maxLen) : Evw (fun k => lex_IsName.f k s) (· = isN s) := outOf_spec (isName_tot s h)
theorem unitB_ev (s : ByteArray) : Evw (fun k => write_unit.f k s) (· = unitB s) := outOf_spec (unit_tot s)
theorem numB_ev {s : ByteArray} (h : s.size ≤ maxLen) : Evw (fun k => write_num.f k s) (· = numB s) := outOf_spec (num_tot s h)
theorem treeB_ev {t : List api_Node.denote} (h : ∀ n ∈ t, NodeOk n) : Evw (fun k => tree_Good.f k t) (· = treeB t) := outOf_spec (treeGood_tot t h)
structure DeclOk (d : api_Decl.denote) : Prop where
  name : d.2.1.size ≤ maxLen
  other : d.2.2.1.size ≤ maxLen
  num : d.2.2.2.1.size ≤ maxLen
  var : d.2.2.2.2.1.size ≤ maxLen
  tree : ∀ n ∈ d.2.2.2.2.2.2.1, NodeOk n
  trees : d.2.2.2.2.2.2.1.length ≤ maxLen
def faceD (d : api_Decl.denote) : write_face.denote := (d.1, (d.2.1, (d.2.2.1, (d.2.2.2.1, (d.2.2.2.2.1, (d.2.2.2.2.2.1, (d.2.2.2.2.2.2.2.1, ())))))))
def bareD (d : api_Decl.denote) : Bool := (((List.length d.2.2.2.2.2.2.1) : Nat) : Int) == (0 : Int)
noncomputable def goodD (d : api_Decl.denote) : Bool := isN d.2.1 && (unitB d.2.2.2.2.2.1 && (
  bif d.1 == (1 : Int) then eqv write_face (faceD d) ((1 : Int), (d.2.1, ((Ty.zero .str), (d.2.2.2.1, ((Ty.zero .str), (d.2.2.2.2.2.1, ((0 : Int), ()))))))) && (bareD d && (numB d.2.2.2.1 && !(strEq d.2.2.2.2.2.1 (ByteArray.mk #[])))) else
  bif d.1 == (2 : Int) then eqv write_face (faceD d) ((2 : Int), (d.2.1, ((Ty.zero .str), (d.2.2.2.1, (d.2.2.2.2.1, (d.2.2.2.2.2.1, ((0 : Int), ()))))))) && (bareD d && (numB d.2.2.2.1 && numB d.2.2.2.2.1)) else
  bif d.1 == (3 : Int) then eqv write_face (faceD d) ((3 : Int), (d.2.1, (d.2.2.1, (d.2.2.2.1, ((Ty.zero .str), ((Ty.zero .str), ((0 : Int), ()))))))) && (bareD d && (numB d.2.2.2.1 && isN d.2.2.1)) else
  bif d.1 == (4 : Int) then eqv write_face (faceD d) ((4 : Int), (d.2.1, ((Ty.zero .str), ((Ty.zero .str), ((Ty.zero .str), ((Ty.zero .str), ((0 : Int), ()))))))) && treeB d.2.2.2.2.2.2.1 else
  bif d.1 == (5 : Int) then eqv write_face (faceD d) ((5 : Int), (d.2.1, ((Ty.zero .str), ((Ty.zero .str), ((Ty.zero .str), (d.2.2.2.2.2.1, (d.2.2.2.2.2.2.2.1, ()))))))) && (treeB d.2.2.2.2.2.2.1 && (decide (d.2.2.2.2.2.2.2.1 ≥ (0 : Int)) && decide (d.2.2.2.2.2.2.2.1 ≤ (60 : Int)))) else
  false))
theorem goodD_ev {d : api_Decl.denote} (h : DeclOk d) : Evw (fun k => write_Good.f k d) (· = goodD d) := by
  unfold write_Good.f write_Good.b
  refine .bindv (isN_ev h.name) (.notc fun _ => .bindv (unitB_ev _) (.notc fun _ => ?_))
  refine .condv (.ret (.andc fun _ => .andc fun _ => .bindv (numB_ev h.num) (.andc fun _ => .pure rfl))) ?_
  refine .condv (.ret (.andc fun _ => .andc fun _ => .bindv (numB_ev h.num) (.andc fun _ => .ret (numB_ev h.var)))) ?_
  refine .condv (.ret (.andc fun _ => .andc fun _ => .bindv (numB_ev h.num) (.andc fun _ => .ret (isN_ev h.other)))) ?_
  refine .condv (.andc fun _ => .ret (treeB_ev h.tree)) ?_
  refine .condv (.ret (.andc fun _ => .bindv (treeB_ev h.tree) (.andc fun _ => .andc fun _ => .pure rfl))) (.pure rfl)
end Go.Proofs.YtlfcdmibknmjeaaDoor.E
