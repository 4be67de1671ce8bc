import Derived.Test.YtcajdkncohcaeaaDoorVTrE
namespace Go.Proofs.YtcajdkncohcaeaaDoor
set_option linter.unusedVariables false
set_option linter.unusedSimpArgs false
open Go.RowKit Go.Proofs.YtcajdkncohcaeaaDoorW.PrintWords
open GTree (S52 k52)
open Go in
theorem wpList_copy_rows {P : Program} {w : World} {ops : Array Oper} {rest : List Oper} {o : Oper} {a : Act} {Q : Exit → Act → World → Prop} (hgd : o.guard = none) (d s : Operand) (dT sT : TypeId)
    (ho : o.op = .call { callee := .builtin .copy, args := #[d, s], argTypes := #[dT, sT] }) (elem : TypeId) (hu : P.underlying dT = some (.slice elem)) (sz : Nat) (hsz : (P.info? elem).map (·.size) = some sz)
    (g off dLen dCap : Nat) (A : Option Addr) (sLen sCap : Nat) (hd : a.eval d = .slice (some ⟨g, off, none⟩) dLen dCap) (hs : a.eval s = .slice A sLen sCap) (cur : List Value) (t : TypeId) (hg : w.heap[g]? = some (.cells cur.toArray t (0, 0)))
    (cs : List Value) (hle : sLen ≤ dLen) (hn : cs.length = sLen * sz) (hsrc : sLen = 0 ∨ ∃ a, A = some a ∧ ∀ j v, cs[j]? = some v → w.cell? (a.add j) = some v) (hfit : off + cs.length ≤ cur.length) (h1 : ∀ v ∈ cs, v.oneCell' = true) (B : Nat) (w0 : World) (hb : Below B w0 w) (hBg : B ≤ g)
    (h : ∀ w', Hid (w'.heap[g]? = some (.cells (cur.take off ++ cs ++ cur.drop (off + cs.length)).toArray t (0, 0))) → Hid (Below B w0 w') → wpList P ops Q rest (a.put o.dst (goInt sLen)) w') :
    wpList P ops Q (o :: rest) a w := by
  refine wpList_plain hgd fun K hK => ?_
  have hrun := run_copy_rows (P := P) w dT sT o.type elem g off dLen dCap A sLen sCap cur.toArray t cs sz hu hsz hg hle hn hsrc (by simpa using hfit) h1
  unfold Oper.wp
  simp [execOp, ho, resolve, invoke, builtin, hd, hs, hrun, Result.andThen]
  exact hK _ _ (h _ (Lib.hid (by simpa using setRow_heap w g _ _ t _ hg)) (Lib.hid (below_setRow hb hBg _)))
def isTwo (k : Int) : Bool := (k == 3) || (k == 4) || (k == 5) || (k == 6)
def isOver (k : Int) : Bool := (k == 7) || (k == 8)
/-- a node of a tree that stands behind n nodes -/
def shS (n : Int) (x : S52) : S52 := if isTwo x.f0 = true then { x with f1 := IntKind.i64.wrap (x.f1 + n), f2 := IntKind.i64.wrap (x.f2 + n) } else if isOver x.f0 = true then { x with f1 := IntKind.i64.wrap (x.f1 + n) } else x
def mixS (n : Int) (l0 l1 : List S52) (i : Nat) : List S52 := l0 ++ ((l1.take i).map (shS n) ++ l1.drop i)
theorem mixS_at (n : Int) (l0 l1 : List S52) (i : Nat) (x : S52) (h : l1[i]? = some x) : (mixS n l0 l1 i)[l0.length + i]? = some x := by
  have hi : i < l1.length := (List.getElem?_eq_some_iff.1 h).1
  unfold mixS
  rw [List.getElem?_append_right (by omega), List.getElem?_append_right (by rw [List.length_map, List.length_take]; omega), List.length_map, List.length_take, List.getElem?_drop, ← h]
  congr 1
  omega
theorem mixS_step (n : Int) (l0 l1 : List S52) (i : Nat) (x : S52) (h : l1[i]? = some x) : (mixS n l0 l1 i).set (l0.length + i) (shS n x) = mixS n l0 l1 (i + 1) := by
  have hi : i < l1.length := (List.getElem?_eq_some_iff.1 h).1
  have hx : l1[i] = x := (List.getElem?_eq_some_iff.1 h).2
  unfold mixS
  rw [List.set_append_right _ _ (by omega), List.set_append_right _ _ (by rw [List.length_map, List.length_take]; omega), List.length_map, List.length_take, List.drop_eq_getElem_cons hi, hx,
    show l0.length + i - l0.length - min i l1.length = 0 by omega, List.set_cons_zero, List.take_succ_eq_append_getElem hi, hx]
  simp
theorem mixS_zero (n : Int) (l0 l1 : List S52) : mixS n l0 l1 0 = l0 ++ l1 := by simp [mixS]
theorem mixS_end (n : Int) (l0 l1 : List S52) : mixS n l0 l1 l1.length = l0 ++ l1.map (shS n) := by simp [mixS]
/-- the block of a row of nodes, and more behind it: a store into field k of element j -/
theorem rowS_store {w : World} {g : Nat} {l : List S52} {zs : List Value} (h : w.heap[g]? = some (.cells (rowS l ++ zs).toArray 52 (0, 0))) (j k : Nat) (x x' : S52) (v : Value) (hj : l[j]? = some x) (hk : k < 7) (e : cS x' = (cS x).set k v) :
    (w.setCell ⟨g, j * 7 + k, none⟩ v).heap[g]? = some (.cells (rowS (l.set j x') ++ zs).toArray 52 (0, 0)) := by
  have hjl : j < l.length := (List.getElem?_eq_some_iff.1 hj).1
  refine blk_put h (j * 7 + k) v ?_
  rw [List.setIfInBounds_toArray, List.set_append_left _ _ (by rw [rowS_len]; omega), show j * 7 + k = 7 * j + k by omega, rowS_set l j k x x' v hj hk e]
theorem rowS_cell {w : World} {g : Nat} {l : List S52} {zs : List Value} (h : w.heap[g]? = some (.cells (rowS l ++ zs).toArray 52 (0, 0))) (j k : Nat) (x : S52) (hj : l[j]? = some x) (hk : k < 7) : w.cell? ⟨g, j * 7 + k, none⟩ = (cS x)[k]? := by
  have hjl : j < l.length := (List.getElem?_eq_some_iff.1 hj).1
  rw [blk_cell h, List.getElem?_toArray, List.getElem?_append_left (by rw [rowS_len]; omega), show j * 7 + k = 7 * j + k by omega, rowS_get l j k x hj hk]
theorem two_step {w : World} {g i : Nat} {l0 l1 : List S52} {zs : List Value} {x : S52} (h : w.heap[g]? = some (.cells (rowS (mixS (l0.length : Int) l0 l1 i) ++ zs).toArray 52 (0, 0))) (hx : l1[i]? = some x) (hk : isTwo x.f0 = true) :
    ((w.setCell ⟨g, (l0.length + i) * 7 + 1, none⟩ (.int .i64 (IntKind.i64.wrap (x.f1 + (l0.length : Int))))).setCell ⟨g, (l0.length + i) * 7 + 2, none⟩ (.int .i64 (IntKind.i64.wrap (x.f2 + (l0.length : Int))))).heap[g]? = some (.cells (rowS (mixS (l0.length : Int) l0 l1 (i + 1)) ++ zs).toArray 52 (0, 0)) := by
  have hm := mixS_at (l0.length : Int) l0 l1 i x hx
  have h1 := rowS_store h (l0.length + i) 1 x { x with f1 := IntKind.i64.wrap (x.f1 + (l0.length : Int)) } (.int .i64 (IntKind.i64.wrap (x.f1 + (l0.length : Int)))) hm (by omega) rfl
  have h2 := rowS_store h1 (l0.length + i) 2 { x with f1 := IntKind.i64.wrap (x.f1 + (l0.length : Int)) } (shS (l0.length : Int) x) (.int .i64 (IntKind.i64.wrap (x.f2 + (l0.length : Int)))) (by rw [List.getElem?_set_self (List.getElem?_eq_some_iff.1 hm).1]) (by omega) (by unfold shS; rw [if_pos hk]; rfl)
  rw [List.set_set, mixS_step _ l0 l1 i x hx] at h2
  exact h2
theorem over_step {w : World} {g i : Nat} {l0 l1 : List S52} {zs : List Value} {x : S52} (h : w.heap[g]? = some (.cells (rowS (mixS (l0.length : Int) l0 l1 i) ++ zs).toArray 52 (0, 0))) (hx : l1[i]? = some x) (h2 : isTwo x.f0 = false) (hk : isOver x.f0 = true) :
    (w.setCell ⟨g, (l0.length + i) * 7 + 1, none⟩ (.int .i64 (IntKind.i64.wrap (x.f1 + (l0.length : Int))))).heap[g]? = some (.cells (rowS (mixS (l0.length : Int) l0 l1 (i + 1)) ++ zs).toArray 52 (0, 0)) := by
  have hm := mixS_at (l0.length : Int) l0 l1 i x hx
  have h1 := rowS_store h (l0.length + i) 1 x (shS (l0.length : Int) x) (.int .i64 (IntKind.i64.wrap (x.f1 + (l0.length : Int)))) hm (by omega) (by unfold shS; rw [if_neg (by rw [h2]; decide), if_pos hk]; rfl)
  rw [mixS_step _ l0 l1 i x hx] at h1
  exact h1
theorem leaf_step {l0 l1 : List S52} {i : Nat} {x : S52} (hx : l1[i]? = some x) (h2 : isTwo x.f0 = false) (hk : isOver x.f0 = false) : mixS (l0.length : Int) l0 l1 (i + 1) = mixS (l0.length : Int) l0 l1 i := by
  have hm := mixS_at (l0.length : Int) l0 l1 i x hx
  rw [← mixS_step _ l0 l1 i x hx, show shS (l0.length : Int) x = x by unfold shS; rw [if_neg (by rw [h2]; decide), if_neg (by rw [hk]; decide)]]
  apply List.ext_getElem?
  intro j
  rw [List.getElem?_set]
  split
  · next e => subst e; split; exact hm.symm; (next h3 => exact absurd (List.getElem?_eq_some_iff.1 hm).1 h3)
  · rfl
def behindF (l0 l1 : List S52) : Option (List S52) := if l0.length + l1.length < 1000000 then some (l0 ++ l1.map (shS l0.length)) else none
theorem cut7 (g N n m : Nat) (hN : n + m = N) (W : World) : Sem.run Tryd.prog (Instr.slice 39 (.slice (some ⟨g, 0, none⟩) N (N + 1)) (some (.int .i64 (n : Int))) none none) W = .ok (.slice (some ⟨g, n * 7, none⟩) m (m + 1)) W := by
  obtain ⟨i, hi, hsz⟩ : ∃ i, Tryd.prog.info? 52 = some i ∧ i.size = 7 := by
    have : (Tryd.prog.info? 52).map (·.size) = some 7 := by kernel_rfl
    obtain ⟨i, h1, h2⟩ := Option.map_eq_some_iff.1 this
    exact ⟨i, h1, h2⟩
  have ht : Tryd.underlying39 = Tryd.underlying39 := rfl
  have hel : Tryd.prog.elem 39 = 52 := by kernel_rfl
  have hu : Tryd.prog.underlying 39 = some (.slice (Tryd.prog.elem 39)) := by rw [hel]; exact Tryd.underlying39
  have hadd : (⟨g, 0, none⟩ : Addr).add (n * 7) = ⟨g, n * 7, none⟩ := by
    unfold Addr.add; split <;> simp_all
  rw [run_slice_l W 39 (some ⟨g, 0, none⟩) N (N + 1) hu .i64 (n : Int) (Int.natCast_nonneg _) (by omega), hel]
  simp [sizeOf, typeInfo, hi, hsz, sliced, Result.andThen, hadd]
  omega
end Go.Proofs.YtcajdkncohcaeaaDoor
