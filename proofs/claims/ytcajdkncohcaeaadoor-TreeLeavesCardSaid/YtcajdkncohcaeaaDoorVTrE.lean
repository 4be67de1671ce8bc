import Derived.Test.YtcajdkncohcaeaaDoorVTrA
import Derived.Test.YtcajdkncohcaeaaDoorVGTree0
import Derived.Laws.CopyOwn
import Derived.Laws.MakeOwn
namespace Go.Proofs.YtcajdkncohcaeaaDoor
set_option linter.unusedVariables false
set_option linter.unusedSimpArgs false
open Go.RowKit Go.Proofs.YtcajdkncohcaeaaDoorW.PrintWords
open GTree (S52 k52)
def cS (x : S52) : List Value := [.int .i64 x.f0, .int .i64 x.f1, .int .i64 x.f2, .int .i64 x.f3, .string x.f4, .string x.f5, .int .i64 x.f6]
def rowS (l : List S52) : List Value := l.flatMap cS
theorem cS_len (x : S52) : (cS x).length = 7 := rfl
theorem rowS_cons (x : S52) (l : List S52) : rowS (x :: l) = cS x ++ rowS l := by simp [rowS]
theorem rowS_append (l m : List S52) : rowS (l ++ m) = rowS l ++ rowS m := by simp [rowS]
theorem rowS_len : ∀ l : List S52, (rowS l).length = l.length * 7
  | [] => rfl
  | x :: l => by rw [rowS_cons, List.length_append, rowS_len l, cS_len]; simp; omega
theorem rowS_one (l : List S52) : ∀ v ∈ rowS l, v.oneCell' = true := by
  intro v hv
  obtain ⟨x, _, hx⟩ := List.mem_flatMap.1 hv
  simp only [cS, List.mem_cons, List.not_mem_nil, or_false] at hx
  rcases hx with h | h | h | h | h | h | h <;> subst h <;> rfl
theorem reps_rowS {R : S52 → List Value → Prop} (hR : ∀ x c, R x c → c = cS x) : ∀ (l : List S52) (cs : List Value), Reps R 7 l cs → cs = rowS l
  | [], cs, h => by
    have := h.1
    simp at this
    rw [this]; rfl
  | x :: l, cs, h => by
    have h0 := hR _ _ (h.2 0 x rfl)
    have hl := h.1
    simp only [Nat.zero_mul, List.drop_zero] at h0
    have ih := reps_rowS hR l (cs.drop 7) ⟨by rw [List.length_drop, hl]; simp; omega, fun j p hj => by
      have := h.2 (j + 1) p (by simpa using hj)
      rw [List.drop_drop]
      rwa [show (j + 1) * 7 = 7 + j * 7 by omega] at this⟩
    rw [rowS_cons, ← h0, ← ih, List.take_append_drop]
theorem readsS {w : World} {ad : Addr} {n : Nat} {l : List S52} (h : Kd.C k52 w (some ad) n l) : ∀ j v, (rowS l)[j]? = some v → w.cell? (ad.add j) = some v := by
  obtain ⟨inner, hr, hc⟩ := ReadsRow.inner_ h
  rw [← reps_rowS (fun x c hx => GTree.k52_open hx) l inner hr]
  exact hc
theorem rowS_reps (R : S52 → List Value → Prop) (hR : ∀ x, R x (cS x)) : ∀ l : List S52, Reps R 7 l (rowS l)
  | [] => Reps.none _ _
  | x :: l => by
    have ih := rowS_reps R hR l
    refine ⟨by rw [rowS_len], fun j p hj => ?_⟩
    cases j with
    | zero =>
      simp at hj
      subst hj
      rw [rowS_cons, Nat.zero_mul, List.drop_zero, List.take_append_of_le_length (by rw [cS_len]; omega), List.take_of_length_le (by rw [cS_len]; omega)]
      exact hR x
    | succ j =>
      have := ih.2 j p (by simpa using hj)
      rw [rowS_cons, show (j + 1) * 7 = (cS x).length + j * 7 by rw [cS_len]; omega, List.drop_length_add_append]
      exact this
/-- A row of the call's own out of its block. -/
theorem ownS {w : World} {base g cap : Nat} {l : List S52} {zs : List Value} (hg : w.heap[g]? = some (.cells (rowS l ++ zs).toArray 52 (0, 0))) (hb : base ≤ g) (hc : l.length ≤ cap) (hm : cap ≤ maxLen) (hz : (rowS l ++ zs).length = cap * 7) :
    Kd.R k52 52 w base (fun _ => True) (.slice (some ⟨g, 0, none⟩) l.length cap) l := by
  refine ⟨fun _ _ => trivial, rowS l, ⟨rowS_len l, .inr ⟨g, cap, _, rfl, hb, hg, hc, hm, by show (rowS l ++ zs).length = cap * 7; exact hz, ?_⟩⟩, ?_⟩
  · show (rowS l ++ zs).take (l.length * 7) = rowS l
    rw [← rowS_len, List.take_left']
    rfl
  · exact rowS_reps _ (fun x => GTree.k52_mkM _ _ _ x) l
theorem rowS_get : ∀ (l : List S52) (j k : Nat) (x : S52), l[j]? = some x → k < 7 → (rowS l)[7 * j + k]? = (cS x)[k]?
  | [], j, k, x, h, _ => by simp at h
  | y :: l, 0, k, x, h, hk => by
    simp at h
    subst h
    rw [rowS_cons, List.getElem?_append_left (by rw [cS_len]; omega), Nat.mul_zero, Nat.zero_add]
  | y :: l, j + 1, k, x, h, hk => by
    rw [rowS_cons, List.getElem?_append_right (by rw [cS_len]; omega), cS_len, show 7 * (j + 1) + k - 7 = 7 * j + k by omega]
    exact rowS_get l j k x (by simpa using h) hk
theorem rowS_set : ∀ (l : List S52) (j k : Nat) (x x' : S52) (v : Value), l[j]? = some x → k < 7 → cS x' = (cS x).set k v → (rowS l).set (7 * j + k) v = rowS (l.set j x')
  | [], j, k, x, x', v, h, _, _ => by simp at h
  | y :: l, 0, k, x, x', v, h, hk, e => by
    simp at h
    subst h
    rw [rowS_cons, List.set_append_left _ _ (by rw [cS_len]; omega), Nat.mul_zero, Nat.zero_add, ← e]
    simp [rowS_cons]
  | y :: l, j + 1, k, x, x', v, h, hk, e => by
    rw [rowS_cons, List.set_append_right _ _ (by rw [cS_len]; omega), cS_len, show 7 * (j + 1) + k - 7 = 7 * j + k by omega, rowS_set l j k x x' v (by simpa using h) hk e]
    simp [rowS_cons]
/-- copy(dst, src): the whole of src goes over; an element has s cells. -/
theorem run_copy_rows {P : Program} (w : World) (dT sT ty elem : TypeId) (g o dLen dCap : Nat) (A : Option Addr) (sLen sCap : Nat) (cur : Array Value) (t : TypeId) (cs : List Value) (s : Nat)
    (hu : P.underlying dT = some (.slice elem)) (hs : (P.info? elem).map (·.size) = some s) (hg : w.heap[g]? = some (.cells cur t (0, 0))) (hle : sLen ≤ dLen) (hn : cs.length = sLen * s)
    (hsrc : sLen = 0 ∨ ∃ a, A = some a ∧ ∀ j v, cs[j]? = some v → w.cell? (a.add j) = some v) (hfit : o + cs.length ≤ cur.size) (h1 : ∀ v ∈ cs, v.oneCell' = true) :
    (Builtin.copy_ #[dT, sT] ty #[.slice (some ⟨g, o, none⟩) dLen dCap, .slice A sLen sCap]).run P w =
      .ok (goInt sLen) (w.setRow g (cur.toList.take o ++ cs ++ cur.toList.drop (o + cs.length)).toArray) := by
  have hst := run_storeCells_at P g o t cs 0 cur w hg (by simpa using hfit) h1
  have hmin : Nat.min sLen dLen = sLen := Nat.min_eq_left hle
  cases hq : P.info? elem with
  | none => simp [hq] at hs
  | some i =>
    have hi : i.size = s := by simpa [hq] using hs
    have hld : (Builtin.firstCells s sLen (.slice A sLen sCap)).run P w = .ok cs.toArray w := by
      rcases hsrc with h0 | ⟨a, rfl, hc⟩
      · subst h0
        have hc0 : cs = [] := List.eq_nil_of_length_eq_zero (by simpa using hn)
        subst hc0
        cases A with
        | none => rfl
        | some a => simpa [Builtin.firstCells] using run_loadCells_list (P := P) w a [] (fun j v hj => by simp at hj)
      · have := run_loadCells_list (P := P) w a cs hc
        rw [hn] at this
        exact this
    simp [Builtin.copy_, run_underlying hu, Builtin.lenOf, sizeOf, typeInfo, hq, hi, hmin, hld, hst]
end Go.Proofs.YtcajdkncohcaeaaDoor
