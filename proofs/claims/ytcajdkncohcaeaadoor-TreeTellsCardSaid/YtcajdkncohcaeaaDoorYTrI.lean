import Derived.Test.YtcajdkncohcaeaaDoorYTrE
namespace Go.Proofs.YtcajdkncohcaeaaDoor
set_option linter.unusedVariables false
set_option linter.unusedSimpArgs false
open Go.RowKit Go.Proofs.YtcajdkncohcaeaaDoorW.PrintWords
open GTree (S52 k52 rd_T52)
def twoK (k : Int) : Bool := (k == 3) || ((k == 4) || ((k == 5) || (k == 6)))
set_option maxRecDepth 20000 in
set_option maxHeartbeats 2000000 in
theorem two_calls (a0 : Int) (r : Bool) (w : World) (h : some (twoK a0) = some r) :
 Calls Tryd.prog 40 #[.int .i64 a0] w fun e w' => e = .returned (.bool r) ∧ Below w.heap.size w w' := by
 obtain rfl := Option.some.inj h
 clear h
 unfold twoK
 generalize h3 : (a0 == 3) = q3
 generalize h4 : (a0 == 4) = q4
 generalize h5 : (a0 == 5) = q5
 generalize h6 : (a0 == 6) = q6
 rcases (show q3 = true ∨ (q3 = false ∧ q4 = true) ∨ (q3 = false ∧ q4 = false ∧ q5 = true) ∨ (q3 = false ∧ q4 = false ∧ q5 = false) from by cases q3 <;> cases q4 <;> cases q5 <;> simp) with rfl | ⟨rfl,rfl⟩ | ⟨rfl,rfl,rfl⟩ | ⟨rfl,rfl,rfl⟩
 all_goals
  go_enter Tryd.func40,Tryd.ntmps40
  go_wp2_with fail
  go_ret
  exact ⟨rfl,by repeat (first | exact Below.refl _ _ | apply bl_drew)⟩
def bareEq (x y : S52) : Bool := x.f0 == y.f0 && (x.f1 == y.f1 && (x.f2 == y.f2 && (x.f3 == y.f3 && (x.f4.toList == y.f4.toList && x.f5.toList == y.f5.toList))))
def sameL : List S52 → List S52 → Bool
 | x :: l,y :: m => bareEq x y && sameL l m
 | _,_ => true
def sameF (l0 l1 : List S52) : Option Bool := if l0.length < 4611686018427387904 then some (decide (l0.length = l1.length) && sameL l0 l1) else none
theorem same_drop (l0 l1 : List S52) (i : Nat) (h0 : i < l0.length) (h1 : i < l1.length) : sameL (l0.drop i) (l1.drop i) = (bareEq (rd_T52 l0 i) (rd_T52 l1 i) && sameL (l0.drop (i + 1)) (l1.drop (i + 1))) := by
 rw [List.drop_eq_getElem_cons h0,List.drop_eq_getElem_cons h1,sameL]
 have e0 : rd_T52 l0 i = l0[i] := by unfold rd_T52;rw [Int.toNat_natCast,List.getD_eq_getElem?_getD,List.getElem?_eq_getElem h0];rfl
 have e1 : rd_T52 l1 i = l1[i] := by unfold rd_T52;rw [Int.toNat_natCast,List.getD_eq_getElem?_getD,List.getElem?_eq_getElem h1];rfl
 rw [e0,e1]
set_option maxRecDepth 20000 in
set_option maxHeartbeats 8000000 in
theorem same_calls (A0 : Option Addr) (c0 : Nat) (l0 : List (S52)) (A1 : Option Addr) (c1 : Nat) (l1 : List (S52)) (r : Bool) (w : World) (hr0 : Kd.C k52 w A0 l0.length l0) (hc0 : l0.length ≤ c0) (hr1 : Kd.C k52 w A1 l1.length l1) (hc1 : l1.length ≤ c1) (h : sameF l0 l1 = some r) :
 Calls Tryd.prog 38 #[.slice A0 l0.length c0,.slice A1 l1.length c1] w fun e w' => e = .returned (.bool r) ∧ Below w.heap.size w w' := by
 unfold sameF at h
 split at h
 case isFalse => cases h
 case isTrue hsmall =>
 obtain rfl := Option.some.inj h
 clear h
 by_cases hl : l0.length = l1.length
 ·have e1 : ((l0.length : Int) != (l1.length : Int)) = false := by rw [hl];simp
  obtain ⟨r,hr⟩ : ∃ r,sameL l0 l1 = r := ⟨_,rfl⟩
  have HV : Hid ((decide (l0.length = l1.length) && sameL l0 l1) = r) := Lib.hid (by rw [decide_eq_true hl,hr];rfl)
  have HR0 : Hid (∀ w' : World,Below w.heap.size w w' → Kd.C k52 w' A0 l0.length l0) := Lib.hid (fun w' hb => Kd.C_below hr0 hb)
  have HR1 : Hid (∀ w' : World,Below w.heap.size w w' → Kd.C k52 w' A1 l1.length l1) := Lib.hid (fun w' hb => Kd.C_below hr1 hb)
  have H0 : Hid (sameL (l0.drop 0) (l1.drop 0) = r) := Lib.hid (by simpa using hr)
  have HL := Lib.hid hl
  have HSM := Lib.hid hsmall
  rw [HV.out]
  generalize hn : l0.length = n at *
  generalize hm : l1.length = m at *
  have HN := Lib.hid (And.intro hn hm)
  obtain rfl : n = m := hl
  clear hr0 hr1 hr HV hn hm hsmall
  go_enter Tryd.func38,Tryd.ntmps38
  go_wp2_with fail
  go_loopw [15] (fun v wr => ∃ i : Nat,v = .int .i64 i ∧ i ≤ n ∧ Hid (sameL (l0.drop i) (l1.drop i) = r) ∧ Hid (Below w.heap.size w wr)) (fun v _ => n - (intOf v).toNat)
  case atStart => exact ⟨0,rfl,Nat.zero_le _,H0,Lib.hid (Below.refl _ _)⟩
  case round =>
   obtain ⟨i,rfl,hin,HE,HB⟩ := hrel
   by_cases hlt : i < n
   ·obtain ⟨ad,rfl,x0,x1,x2,x3,x4,x5,x6⟩ := GTree.at_T52 (HR0.out _ HB.out) (i : Int) (Int.natCast_nonneg _) (by omega)
    obtain ⟨bd,rfl,y0,y1,y2,y3,y4,y5,y6⟩ := GTree.at_T52 (HR1.out _ HB.out) (i : Int) (Int.natCast_nonneg _) (by omega)
    have hstep := same_drop l0 l1 i (by have := HN.out;omega) (by have := HN.out;omega)
    simp only [Int.toNat_natCast] at x0 x1 x2 x3 x4 x5 x6 y0 y1 y2 y3 y4 y5 y6
    generalize rd_T52 l0 (i : Int) = x at *
    generalize rd_T52 l1 (i : Int) = y at *
    obtain ⟨q,hq⟩ : ∃ q,bareEq x y = q := ⟨_,rfl⟩
    have hE : ∀ (d : Nat) (w : World),(Op.equalIn (d + 2) 52 (.agg #[.int .i64 x.f0,.int .i64 x.f1,.int .i64 x.f2,.int .i64 x.f3,.string x.f4,.string x.f5,.int .i64 0]) (.agg #[.int .i64 y.f0,.int .i64 y.f1,.int .i64 y.f2,.int .i64 y.f3,.string y.f4,.string y.f5,.int .i64 0])).run Tryd.prog w = .ok q w := fun d w => by
     rw [eqNode,← hq];simp [bareEq]
    have HST : Hid (sameL (l0.drop i) (l1.drop i) = (q && sameL (l0.drop (i + 1)) (l1.drop (i + 1)))) := Lib.hid (by rw [hstep,hq])
    have hlti : ((i : Int) < (n : Int)) = True := eq_true (by omega)
    have pi : (0 ≤ (i : Int)) = True := eq_true (by omega)
    have hwi : IntKind.i64.wrap ((i : Int) + 1) = (i : Int) + 1 := by rw [IntKind.wrap_i64];have := HSM.out;omega
    have l0' := World.block_lt_of_cell? _ _ x0
    have l1' := World.block_lt_of_cell? _ _ y0
    clear hstep hq
    cases q
    ·have hr : r = false := by rw [← HE.out,HST.out];rfl
     go_wp2_with fail
     go_ret
     exact ⟨by rw [hr];rfl,bl_alloc (bl_alloc HB.out _) _⟩
    ·go_wp2_with fail
     exact ⟨⟨i + 1,by go_num,by omega,Lib.hid (by rw [← HE.out,HST.out,Bool.true_and]),Lib.hid (bl_alloc (bl_alloc HB.out _) _)⟩,by simp [intOf];omega⟩
   ·obtain rfl : i = n := by omega
    have hlti : ((i : Int) < (i : Int)) = False := eq_false (by omega)
    have hr : r = true := by
     rw [← HE.out,List.drop_eq_nil_of_le (by have := HN.out;omega)];unfold sameL;rfl
    go_wp2_with fail
    go_ret
    exact ⟨by rw [hr];rfl,HB.out⟩
 ·have e1 : ((l0.length : Int) != (l1.length : Int)) = true := by rw [bne_iff_ne];omega
  have HV : Hid ((decide (l0.length = l1.length) && sameL l0 l1) = false) := Lib.hid (by rw [decide_eq_false hl];rfl)
  clear hr0 hr1
  go_enter Tryd.func38,Tryd.ntmps38
  go_wp2_with fail
  go_ret
  exact ⟨by rw [HV.out];rfl,Below.refl _ _⟩
end Go.Proofs.YtcajdkncohcaeaaDoor
