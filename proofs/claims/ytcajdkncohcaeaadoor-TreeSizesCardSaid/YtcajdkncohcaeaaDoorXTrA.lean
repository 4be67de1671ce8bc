import Derived.Test.YtcajdkncohcaeaaDoorXLx
namespace Go.Proofs.YtcajdkncohcaeaaDoor
set_option linter.unusedVariables false
set_option linter.unusedSimpArgs false
open Go.RowKit Go.Proofs.YtcajdkncohcaeaaDoorW.PrintWords
structure Node where
  kind : Int
  left : Int
  right : Int
  num : Int
  text : ByteArray
  unit : ByteArray
  pos : Int
deriving DecidableEq
theorem infoNode : (Tryd.prog.info? 52).map (fun i => (i.zero, i.size, i.bytes)) = some (some (.agg #[(.int .i64 0), (.int .i64 0), (.int .i64 0), (.int .i64 0), (.string ⟨#[]⟩), (.string ⟨#[]⟩), (.int .i64 0)]), 7, 72) := by kernel_rfl
theorem eqNode (d : Nat) (w : World) (x0 y0 : Int) (x1 y1 : Int) (x2 y2 : Int) (x3 y3 : Int) (x4 y4 : ByteArray) (x5 y5 : ByteArray) (x6 y6 : Int) :
    (Op.equalIn (d + 2) 52 (.agg #[.int .i64 x0, .int .i64 x1, .int .i64 x2, .int .i64 x3, .string x4, .string x5, .int .i64 x6]) (.agg #[.int .i64 y0, .int .i64 y1, .int .i64 y2, .int .i64 y3, .string y4, .string y5, .int .i64 y6])).run Tryd.prog w = .ok ((x0 == y0) && ((x1 == y1) && ((x2 == y2) && ((x3 == y3) && ((x4.toList == y4.toList) && ((x5.toList == y5.toList) && (x6 == y6))))))) w := by
  refine eqA_of Tryd.underlying52 (by kernel_rfl) ?_
  refine eqf_cons (by rfl) (by go_simp; rfl) (by go_simp; rfl) (by go_simp) ?_
  refine eqf_cons (by rfl) (by go_simp; rfl) (by go_simp; rfl) (by go_simp) ?_
  refine eqf_cons (by rfl) (by go_simp; rfl) (by go_simp; rfl) (by go_simp) ?_
  refine eqf_cons (by rfl) (by go_simp; rfl) (by go_simp; rfl) (by go_simp) ?_
  refine eqf_cons (by rfl) (by go_simp; rfl) (by go_simp; rfl) (by go_simp) ?_
  refine eqf_cons (by rfl) (by go_simp; rfl) (by go_simp; rfl) (by go_simp) ?_
  exact eqf_last (by rfl) (by go_simp; rfl) (by go_simp; rfl) (by go_simp)
structure Face where
  kind : Int
  num : Int
  text : ByteArray
  unit : ByteArray
deriving DecidableEq
theorem eqFace (d : Nat) (w : World) (x0 y0 : Int) (x1 y1 : Int) (x2 y2 : ByteArray) (x3 y3 : ByteArray) :
    (Op.equalIn (d + 2) 109 (.agg #[.int .i64 x0, .int .i64 x1, .string x2, .string x3]) (.agg #[.int .i64 y0, .int .i64 y1, .string y2, .string y3])).run Tryd.prog w = .ok ((x0 == y0) && ((x1 == y1) && ((x2.toList == y2.toList) && (x3.toList == y3.toList)))) w := by
  refine eqA_of Tryd.underlying109 (by kernel_rfl) ?_
  refine eqf_cons (by rfl) (by go_simp; rfl) (by go_simp; rfl) (by go_simp) ?_
  refine eqf_cons (by rfl) (by go_simp; rfl) (by go_simp; rfl) (by go_simp) ?_
  refine eqf_cons (by rfl) (by go_simp; rfl) (by go_simp; rfl) (by go_simp) ?_
  exact eqf_last (by rfl) (by go_simp; rfl) (by go_simp; rfl) (by go_simp)
/-- may units stand in brackets -/
def unitB (s : ByteArray) : Bool := decide (s.size ≤ 200) && (!decide (0 ≤ Lib.indexByte s.data.toList 93) && !decide (0 ≤ Lib.indexByte s.data.toList 10))
set_option maxRecDepth 20000 in
set_option maxHeartbeats 1000000 in
theorem ttext_any (s : ByteArray) (w : World) :
    Calls Tryd.prog 84 #[.string s] w fun e w' => e = .returned (.bool (unitB s)) ∧ w = w' := by
  by_cases h : s.size ≤ 200
  · have e1 : decide ((s.size : Int) ≤ 200) = true := by simp; omega
    obtain ⟨p, hp⟩ : ∃ p, decide (0 ≤ Lib.indexByte s.data.toList 93) = p := ⟨_, rfl⟩
    obtain ⟨q, hq⟩ : ∃ q, decide (0 ≤ Lib.indexByte s.data.toList 10) = q := ⟨_, rfl⟩
    have HV : Hid (unitB s = (!p && !q)) := Lib.hid (by rw [unitB, decide_eq_true h, hp, hq, Bool.true_and])
    have K1 : Hid (∀ w : World, Calls Tryd.prog 94 #[.string s, .string ⟨#[93]⟩] w fun e w' => e = .returned (.bool p) ∧ w = w') := Lib.hid (fun w => by rw [← hp]; exact contains1_any s 93 w)
    have K2 : Hid (∀ w : World, Calls Tryd.prog 94 #[.string s, .string ⟨#[10]⟩] w fun e w' => e = .returned (.bool q) ∧ w = w') := Lib.hid (fun w => by rw [← hq]; exact contains1_any s 10 w)
    clear hp hq
    cases p <;> cases q
    all_goals
      go_enter Tryd.func84, Tryd.ntmps84
      go_wp2_with (first | (go_at_call 94; (with_reducible refine (K1.out _).mono ?_); rintro e w' ⟨rfl, rfl⟩) | (go_at_call 94; (with_reducible refine (K2.out _).mono ?_); rintro e w' ⟨rfl, rfl⟩))
      go_ret
      exact ⟨by rw [HV.out]; rfl, rfl⟩
  · have e1 : decide ((s.size : Int) ≤ 200) = false := by simp; omega
    have HV : Hid (unitB s = false) := Lib.hid (by rw [unitB, decide_eq_false h, Bool.false_and])
    go_enter Tryd.func84, Tryd.ntmps84
    go_wp2_with fail
    go_ret
    exact ⟨by rw [HV.out]; rfl, rfl⟩
def nodeV (x : Node) : Value := .agg #[.int .i64 x.kind, .int .i64 x.left, .int .i64 x.right, .int .i64 x.num, .string x.text, .string x.unit, .int .i64 x.pos]
set_option maxRecDepth 20000 in
set_option maxHeartbeats 1000000 in
theorem tfaced_any (x : Node) (w : World) :
    Calls Tryd.prog 83 #[nodeV x] w fun e w' => e = .returned (.agg #[.int .i64 x.kind, .int .i64 x.num, .string x.text, .string x.unit]) ∧ Below w.heap.size w w' := by
  unfold nodeV
  go_enter Tryd.func83, Tryd.ntmps83
  go_wp2_with fail
  exact bodyPost_ret (v := .agg #[.int .i64 x.kind, .int .i64 x.num, .string x.text, .string x.unit]) (by simp [results, Tryd.results83, go_sem]) rfl ⟨rfl, by repeat (first | exact Below.refl _ _ | refine bl_alloc ?_ _ | refine bl_set ?_ (by simp) _)⟩
end Go.Proofs.YtcajdkncohcaeaaDoor
