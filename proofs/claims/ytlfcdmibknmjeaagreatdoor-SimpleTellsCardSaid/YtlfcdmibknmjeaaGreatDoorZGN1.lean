import Derived.Test.YtlfcdmibknmjeaaGreatDoorZGN0
namespace Go.Proofs.YtlfcdmibknmjeaaGreatDoor.E
open Go Go.Proofs.YtlfcdmibknmjeaaGreatDoor.Ev
set_option linter.unusedVariables false
set_option maxRecDepth 100000
set_option maxHeartbeats 2000000
noncomputable section
def zi.hd : Sig := [⟨false,0,(.imm (.list api_Term))⟩,⟨false,1,(.imm (.int .i64))⟩]
def zi.os : List Sig := [[⟨false,0,.nilS⟩],[⟨false,0,(.own 24 false 4 .bool)⟩]]
def zi.h0 : Sig := [⟨false,0,(.imm (.list api_Term))⟩,⟨false,5,(.own 24 false 4 .bool)⟩,⟨false,6,(.imm (.int .i64))⟩,⟨false,42,(.own 42 false 3 (.int .i64))⟩,⟨false,43,(.imm (.int .i64))⟩,⟨false,44,(.imm (.int .i64))⟩]
def zi.o0 : Outs := [((.exit 2),[⟨false,0,(.imm (.list api_Term))⟩,⟨false,5,(.own 24 false 4 .bool)⟩,⟨false,6,(.imm (.int .i64))⟩])]
def zi.h1 : Sig := [⟨false,0,(.imm (.list api_Term))⟩,⟨false,5,(.own 24 false 4 .bool)⟩,⟨false,6,(.imm (.int .i64))⟩]
def zi.o1 : Outs := [((.exit 0),[⟨false,5,(.own 24 false 4 .bool)⟩])]
def zi.C : List CutAt := [⟨1000001,[(.normal,[⟨false,0,(.imm (.list api_Term))⟩,⟨false,1,(.imm (.int .i64))⟩,⟨false,21,(.imm .bool)⟩])]⟩]
def zi.env (k : Nat) : List (Kn P0 G0) := [zV.fn k,xv.fn]
theorem zi.d : distN (loopIds (Tryz.f26.body.getD .skip) 0) = true := by kernel_rfl
def zi.b0 (c0 : CO → List Bool → Int → LI → Int → Int → Option (CO × (List Bool) × Int)) (x0 : CO) (x1 : List Bool) (x2 : Int) (x3 : LI) (x4 : Int) (x5 : Int) : Option (CO × (List Bool) × Int) := (bif (decide (x5 < x4)) then (bif (decide (((0 : Int) ≤ x5) ∧ (x5 < (((List.length x3) : Nat) : Int)))) then (bif (decide (((0 : Int) ≤ (rdL (0 : Int) x3 x5)) ∧ ((rdL (0 : Int) x3 x5) < (((List.length x1) : Nat) : Int)))) then (c0 x0 (List.set x1 (Int.toNat (rdL (0 : Int) x3 x5)) true) x2 x3 x4 (IntKind.wrap .i64 (x5 + (1 : Int)))) else none) else none) else (some (x0,(x1,x2))))
def zi.l0 : Nat → CO → List Bool → Int → LI → Int → Int → Option (CO × (List Bool) × Int)
 | 0,_,_,_,_,_,_ => none
 | k + 1,x0,x1,x2,x3,x4,x5 => zi.b0 (zi.l0 k) x0 x1 x2 x3 x4 x5
noncomputable def zi.V0 x0 x1 x2 x3 x4 x5 := lim fun k => zi.l0 k x0 x1 x2 x3 x4 x5
theorem zi.v0 x0 x1 x2 x3 x4 x5 {y} (h : zi.b0 zi.V0 x0 x1 x2 x3 x4 x5 = some y) : zi.V0 x0 x1 x2 x3 x4 x5 = some y := Le.v (.succ (by unfold zi.l0 zi.b0;repeat (first | with_reducible first | exact Le.const | refine Le.bind ?_ fun _ => ?_ | refine Le.cond ?_ ?_ | refine Le.elim (fun _ => ?_) fun _ => ?_ | exact Le.of rfl))) h
def zi.L0 (k : Nat) : LFn := ⟨zi.h0,zi.o0,fun x => zi.l0 k x.1 x.2.1 x.2.2.1 x.2.2.2.1 x.2.2.2.2.1 x.2.2.2.2.2⟩
theorem zi.r0 (k : Nat) (x : Tup (sigTys zi.h0)) : roundK T0 (zi.env k) 53 106 [] zi.C (loopOf Tryz.f26 2) 2 zi.h0 zi.o0 (zi.L0 k).f x = (zi.L0 (k + 1)).f x := by kernel_rfl
theorem zi.s0 (k : Nat) : LoopSound P0 G0 53 106 (sigPins zi.hd) (zi.L0 k) (loopOf Tryz.f26 2) := loop_rounds (T := T0) hm0 hT0 (env := fun k => (zi.env k)) (nh := 106) (pn := sigPins zi.hd) (L := fun k => []) (C := zi.C) (by kernel_rfl) (hd := zi.h0) (os := zi.o0) (by kernel_rfl) (by kernel_rfl) (by kernel_rfl) (g := fun k => (zi.L0 k).f) (fun k => loops_in zi.d trivial) (fun _ => rfl) (fun k x => zi.r0 k x) k
def zi.b1 (c0 : CO → List Bool → Int → Option (List Bool)) (c1 : CO → List Bool → Int → LI → Int → Int → Option (CO × (List Bool) × Int)) (x0 : CO) (x1 : List Bool) (x2 : Int) : Option (List Bool) := (bif (decide (x2 ≥ (0 : Int))) then (bif (decide (((0 : Int) ≤ x2) ∧ (x2 < (((List.length x1) : Nat) : Int)))) then (bif (!(rdL false x1 x2)) then (c0 x0 x1 (IntKind.wrap .i64 (x2 - (1 : Int)))) else (bif (decide (((0 : Int) ≤ x2) ∧ (x2 < (((List.length x0) : Nat) : Int)))) then (Option.bind (xv.f (rdL (Ty.zero api_Term) x0 x2)) fun y5 => (Sum.elim (fun y6 => (Option.bind (c1 x0 (x1,(x2,(y6,((((List.length y6) : Nat) : Int),(0 : Int))))).1 (x1,(x2,(y6,((((List.length y6) : Nat) : Int),(0 : Int))))).2.1 (x1,(x2,(y6,((((List.length y6) : Nat) : Int),(0 : Int))))).2.2.1 (x1,(x2,(y6,((((List.length y6) : Nat) : Int),(0 : Int))))).2.2.2.1 (x1,(x2,(y6,((((List.length y6) : Nat) : Int),(0 : Int))))).2.2.2.2) fun y7 => (c0 y7.1 y7.2.1 (IntKind.wrap .i64 (y7.2.2 - (1 : Int)))))) (fun y6 => (Option.bind (c1 x0 (x1,(x2,(([] : LI),((0 : Int),(0 : Int))))).1 (x1,(x2,(([] : LI),((0 : Int),(0 : Int))))).2.1 (x1,(x2,(([] : LI),((0 : Int),(0 : Int))))).2.2.1 (x1,(x2,(([] : LI),((0 : Int),(0 : Int))))).2.2.2.1 (x1,(x2,(([] : LI),((0 : Int),(0 : Int))))).2.2.2.2) fun y7 => (c0 y7.1 y7.2.1 (IntKind.wrap .i64 (y7.2.2 - (1 : Int)))))) y5)) else none)) else none) else (some x1))
def zi.l1 : Nat → CO → List Bool → Int → Option (List Bool)
 | 0,_,_,_ => none
 | k + 1,x0,x1,x2 => zi.b1 (zi.l1 k) (zi.l0 k) x0 x1 x2
noncomputable def zi.V1 x0 x1 x2 := lim fun k => zi.l1 k x0 x1 x2
theorem zi.v1 x0 x1 x2 {y} (h : zi.b1 zi.V1 zi.V0 x0 x1 x2 = some y) : zi.V1 x0 x1 x2 = some y := Le.v (.succ (by unfold zi.l1 zi.b1;repeat (first | with_reducible first | exact Le.const | refine Le.bind ?_ fun _ => ?_ | refine Le.cond ?_ ?_ | refine Le.elim (fun _ => ?_) fun _ => ?_ | exact Le.of rfl))) h
def zi.L1 (k : Nat) : LFn := ⟨zi.h1,zi.o1,fun x => zi.l1 k x.1 x.2.1 x.2.2⟩
theorem zi.r1 (k : Nat) (x : Tup (sigTys zi.h1)) : roundK T0 (zi.env k) 53 106 [⟨2,zi.L0 k⟩] zi.C (loopOf Tryz.f26 0) 0 zi.h1 zi.o1 (zi.L1 k).f x = (zi.L1 (k + 1)).f x := by kernel_rfl
theorem zi.s1 (k : Nat) : LoopSound P0 G0 53 106 (sigPins zi.hd) (zi.L1 k) (loopOf Tryz.f26 0) := loop_rounds (T := T0) hm0 hT0 (env := fun k => (zi.env k)) (nh := 106) (pn := sigPins zi.hd) (L := fun k => [⟨2,zi.L0 k⟩]) (C := zi.C) (by kernel_rfl) (hd := zi.h1) (os := zi.o1) (by kernel_rfl) (by kernel_rfl) (by kernel_rfl) (g := fun k => (zi.L1 k).f) (fun k => loops_in zi.d ⟨zi.s0 k,trivial⟩) (fun _ => rfl) (fun k x => zi.r1 k x) k
def zi.b (c0 : CO → Option Bool) (c1 : CO → List Bool → Int → Option (List Bool)) (a0 : CO) (a1 : Int) : Option ((Unit) ⊕ (List Bool)) := (Option.bind (bif (decide (a1 < (0 : Int))) then (some (a0,(a1,true))) else (bif (decide (a1 ≥ (((List.length a0) : Nat) : Int))) then (some (a0,(a1,true))) else (Option.bind (c0 a0) fun y3 => (some (a0,(a1,(!y3))))))) fun y3 => (bif y3.2.2 then (some (Sum.inl ())) else (bif (decide (((0 : Int) ≤ (((List.length y3.1) : Nat) : Int)) ∧ (((((List.length y3.1) : Nat) : Int) ≤ (((List.length y3.1) : Nat) : Int)) ∧ ((((List.length y3.1) : Nat) : Int) ≤ ((68719476736 : Nat) : Int))))) then (bif (decide (((0 : Int) ≤ y3.2.1) ∧ (y3.2.1 < (((List.length (List.replicate (Int.toNat (((List.length y3.1) : Nat) : Int)) false)) : Nat) : Int)))) then (Option.bind (c1 y3.1 ((List.set (List.replicate (Int.toNat (((List.length y3.1) : Nat) : Int)) false) (Int.toNat y3.2.1) true),y3.2.1).1 ((List.set (List.replicate (Int.toNat (((List.length y3.1) : Nat) : Int)) false) (Int.toNat y3.2.1) true),y3.2.1).2) fun y4 => (some (Sum.inr y4))) else none) else none)))
def zi.f (k : Nat) a0 a1 := zi.b (zV.f k) (zi.l1 k) a0 a1
noncomputable def zi.V a0 a1 := lim fun k => zi.f k a0 a1
theorem zi.v a0 a1 {y} (h : zi.b zV.V zi.V1 a0 a1 = some y) : zi.V a0 a1 = some y := Le.v (by unfold zi.f zi.b;repeat (first | with_reducible first | exact Le.const | refine Le.bind ?_ fun _ => ?_ | refine Le.cond ?_ ?_ | refine Le.elim (fun _ => ?_) fun _ => ?_ | exact Le.of rfl)) h
theorem zi.e (k : Nat) (x : Tup (sigTys zi.hd)) : fnK T0 (zi.env k) [⟨2,zi.L0 k⟩,⟨0,zi.L1 k⟩] zi.C Tryz.f26 2 106 zi.hd zi.os x = zi.f k x.1 x.2 := by kernel_rfl
def zi.fn (k : Nat) : Kn P0 G0 := ⟨26,2,106,zi.hd,1,zi.os,fun x => zi.f k x.1 x.2,contract (T := T0) (fn := Tryz.f26) hm0 hT0 (by kernel_rfl) (by kernel_rfl) (L := [⟨2,zi.L0 k⟩,⟨0,zi.L1 k⟩]) (C := zi.C) (by kernel_rfl) (by decide) rfl (by kernel_rfl) (loops_fn zi.d ⟨zi.s0 k,zi.s1 k,trivial⟩) (zi.e k),none⟩
def yD.hd : Sig := [⟨false,0,(.imm .bool)⟩,⟨false,1,(.imm (.list (.int .u32)))⟩]
def yD.os : List Sig := [[⟨false,0,(.agg api_Int (.acons (.imm .bool) (.acons (.own 13 false 111 (.int .u32)) .anil)))⟩]]
def yD.C : List CutAt := []
def yD.env (k : Nat) : List (Kn P0 G0) := [yy.fn k]
theorem yD.d : distN (loopIds (Tryz.f153.body.getD .skip) 0) = true := by kernel_rfl
def yD.b (c0 : LI → Option LI) (a0 : Bool) (a1 : LI) : Option (Bool × LI) := (bif (decide (((0 : Int) ≤ (((List.length a1) : Nat) : Int)) ∧ (((((List.length a1) : Nat) : Int) ≤ (((List.length a1) : Nat) : Int)) ∧ ((((List.length a1) : Nat) : Int) ≤ ((68719476736 : Nat) : Int))))) then (Option.bind (c0 (copyL a1 (List.replicate (Int.toNat (((List.length a1) : Nat) : Int)) (0 : Int)))) fun y3 => (bif a0 then (some ((decide ((((List.length y3) : Nat) : Int) > (0 : Int))),y3)) else (some (false,y3)))) else none)
def yD.f (k : Nat) a0 a1 := yD.b (yy.f k) a0 a1
noncomputable def yD.V a0 a1 := lim fun k => yD.f k a0 a1
theorem yD.v a0 a1 {y} (h : yD.b yy.V a0 a1 = some y) : yD.V a0 a1 = some y := Le.v (by unfold yD.f yD.b;repeat (first | with_reducible first | exact Le.const | refine Le.bind ?_ fun _ => ?_ | refine Le.cond ?_ ?_ | refine Le.elim (fun _ => ?_) fun _ => ?_ | exact Le.of rfl)) h
theorem yD.e (k : Nat) (x : Tup (sigTys yD.hd)) : fnK T0 (yD.env k) [] yD.C Tryz.f153 2 44 yD.hd yD.os x = yD.f k x.1 x.2 := by kernel_rfl
def yD.fn (k : Nat) : Kn P0 G0 := ⟨153,2,44,yD.hd,1,yD.os,fun x => yD.f k x.1 x.2,contract (T := T0) (fn := Tryz.f153) hm0 hT0 (by kernel_rfl) (by kernel_rfl) (L := []) (C := yD.C) (by kernel_rfl) (by decide) rfl (by kernel_rfl) (loops_fn yD.d trivial) (yD.e k),none⟩
def xk.hd : Sig := [⟨false,0,(.imm api_Int)⟩]
def xk.os : List Sig := [[⟨false,0,(.agg api_Int (.acons (.imm .bool) (.acons (.own 8 false 111 (.int .u32)) .anil)))⟩]]
def xk.C : List CutAt := []
def xk.env (k : Nat) : List (Kn P0 G0) := [yD.fn k]
theorem xk.d : distN (loopIds (Tryz.f119.body.getD .skip) 0) = true := by kernel_rfl
def xk.b (c0 : Bool → LI → Option (Bool × LI)) (a0 : WH) : Option (Bool × LI) := (Option.bind (c0 (!a0.1) a0.2.1) fun y2 => (some (y2.1,y2.2)))
def xk.f (k : Nat) a0 := xk.b (yD.f k) a0
noncomputable def xk.V a0 := lim fun k => xk.f k a0
theorem xk.v a0 {y} (h : xk.b yD.V a0 = some y) : xk.V a0 = some y := Le.v (by unfold xk.f xk.b;repeat (first | with_reducible first | exact Le.const | refine Le.bind ?_ fun _ => ?_ | refine Le.cond ?_ ?_ | refine Le.elim (fun _ => ?_) fun _ => ?_ | exact Le.of rfl)) h
theorem xk.e (k : Nat) (x : Tup (sigTys xk.hd)) : fnK T0 (xk.env k) [] xk.C Tryz.f119 1 18 xk.hd xk.os x = xk.f k x := by kernel_rfl
def xk.fn (k : Nat) : Kn P0 G0 := ⟨119,1,18,xk.hd,1,xk.os,fun x => xk.f k x,contract (T := T0) (fn := Tryz.f119) hm0 hT0 (by kernel_rfl) (by kernel_rfl) (L := []) (C := xk.C) (by kernel_rfl) (by decide) rfl (by kernel_rfl) (loops_fn xk.d trivial) (xk.e k),none⟩
def xz.hd : Sig := [⟨false,0,(.imm api_Rat)⟩]
def xz.os : List Sig := [[⟨false,0,(.agg api_Rat (.acons (.agg api_Int (.acons (.imm .bool) (.acons (.own 18 false 111 (.int .u32)) .anil))) (.acons (.own 11 false 111 (.int .u32)) .anil)))⟩]]
def xz.C : List CutAt := []
def xz.env (k : Nat) : List (Kn P0 G0) := [yB.fn k,xk.fn k]
theorem xz.d : distN (loopIds (Tryz.f80.body.getD .skip) 0) = true := by kernel_rfl
def xz.b (c0 : RA → Option Bool) (c1 : WH → Option (Bool × LI)) (a0 : RA) : Option (Bool × LI × LI) := (Option.bind (c0 a0) fun y2 => (bif (!y2) then (some (false,(([] : LI),([] : LI)))) else (bif (decide (((0 : Int) ≤ (((List.length a0.2.1) : Nat) : Int)) ∧ (((((List.length a0.2.1) : Nat) : Int) ≤ (((List.length a0.2.1) : Nat) : Int)) ∧ ((((List.length a0.2.1) : Nat) : Int) ≤ ((68719476736 : Nat) : Int))))) then (Option.bind (c1 a0.1) fun y3 => (some (y3.1,(y3.2,(copyL a0.2.1 (List.replicate (Int.toNat (((List.length a0.2.1) : Nat) : Int)) (0 : Int))))))) else none)))
def xz.f (k : Nat) a0 := xz.b (yB.f k) (xk.f k) a0
noncomputable def xz.V a0 := lim fun k => xz.f k a0
theorem xz.v a0 {y} (h : xz.b yB.V xk.V a0 = some y) : xz.V a0 = some y := Le.v (by unfold xz.f xz.b;repeat (first | with_reducible first | exact Le.const | refine Le.bind ?_ fun _ => ?_ | refine Le.cond ?_ ?_ | refine Le.elim (fun _ => ?_) fun _ => ?_ | exact Le.of rfl)) h
theorem xz.e (k : Nat) (x : Tup (sigTys xz.hd)) : fnK T0 (xz.env k) [] xz.C Tryz.f80 1 42 xz.hd xz.os x = xz.f k x := by kernel_rfl
def xz.fn (k : Nat) : Kn P0 G0 := ⟨80,1,42,xz.hd,1,xz.os,fun x => xz.f k x,contract (T := T0) (fn := Tryz.f80) hm0 hT0 (by kernel_rfl) (by kernel_rfl) (L := []) (C := xz.C) (by kernel_rfl) (by decide) rfl (by kernel_rfl) (loops_fn xz.d trivial) (xz.e k),none⟩
def yG.hd : Sig := [⟨false,0,(.imm api_Int)⟩]
def yG.os : List Sig := [[⟨false,0,(.agg api_Int (.acons (.imm .bool) (.acons (.own 7 false 111 (.int .u32)) .anil)))⟩]]
def yG.C : List CutAt := []
def yG.env (k : Nat) : List (Kn P0 G0) := [yD.fn k]
theorem yG.d : distN (loopIds (Tryz.f152.body.getD .skip) 0) = true := by kernel_rfl
def yG.b (c0 : Bool → LI → Option (Bool × LI)) (a0 : WH) : Option (Bool × LI) := (Option.bind (c0 a0.1 a0.2.1) fun y2 => (some (y2.1,y2.2)))
def yG.f (k : Nat) a0 := yG.b (yD.f k) a0
noncomputable def yG.V a0 := lim fun k => yG.f k a0
theorem yG.v a0 {y} (h : yG.b yD.V a0 = some y) : yG.V a0 = some y := Le.v (by unfold yG.f yG.b;repeat (first | with_reducible first | exact Le.const | refine Le.bind ?_ fun _ => ?_ | refine Le.cond ?_ ?_ | refine Le.elim (fun _ => ?_) fun _ => ?_ | exact Le.of rfl)) h
theorem yG.e (k : Nat) (x : Tup (sigTys yG.hd)) : fnK T0 (yG.env k) [] yG.C Tryz.f152 1 16 yG.hd yG.os x = yG.f k x := by kernel_rfl
def yG.fn (k : Nat) : Kn P0 G0 := ⟨152,1,16,yG.hd,1,yG.os,fun x => yG.f k x,contract (T := T0) (fn := Tryz.f152) hm0 hT0 (by kernel_rfl) (by kernel_rfl) (L := []) (C := yG.C) (by kernel_rfl) (by decide) rfl (by kernel_rfl) (loops_fn yG.d trivial) (yG.e k),none⟩
def xf.hd : Sig := [⟨false,0,(.imm (.int .u32))⟩,⟨false,1,(.imm (.int .u32))⟩,⟨false,2,(.imm (.int .u32))⟩]
def xf.os : List Sig := [[⟨false,0,(.imm (.int .u32))⟩,⟨false,1,(.imm (.int .u32))⟩]]
def xf.C : List CutAt := [⟨3,[(.normal,[⟨false,0,(.imm (.int .u32))⟩,⟨false,1,(.imm (.int .u32))⟩,⟨false,2,(.imm (.int .u32))⟩])]⟩]
def xf.env : List (Kn P0 G0) := []
theorem xf.d : distN (loopIds (Tryz.f184.body.getD .skip) 0) = true := by kernel_rfl
def xf.f (a0 : Int) (a1 : Int) (a2 : Int) : Option (Int × Int) := (Option.bind (bif (a2 != (0 : Int)) then (bif (decide (a2 ≤ a0)) then none else (some (a0,(a1,a2)))) else (some (a0,(a1,a2)))) fun y3 => (bif (decide ((IntKind.wrap .u64 y3.2.2) = (0 : Int))) then none else (bif (decide ((IntKind.wrap .u64 y3.2.2) = (0 : Int))) then none else (some ((IntKind.wrap .u32 (IntKind.wrap .u64 (Int.tdiv (bor .u64 (shlI .u64 (IntKind.wrap .u64 y3.1) (32 : Int)) (IntKind.wrap .u64 y3.2.1)) (IntKind.wrap .u64 y3.2.2)))),(IntKind.wrap .u32 (Int.tmod (bor .u64 (shlI .u64 (IntKind.wrap .u64 y3.1) (32 : Int)) (IntKind.wrap .u64 y3.2.1)) (IntKind.wrap .u64 y3.2.2))))))))
theorem xf.e (x : Tup (sigTys xf.hd)) : fnK T0 xf.env [] xf.C Tryz.f184 3 66 xf.hd xf.os x = xf.f x.1 x.2.1 x.2.2 := by kernel_rfl
def xf.fn : Kn P0 G0 := ⟨184,3,66,xf.hd,2,xf.os,fun x => xf.f x.1 x.2.1 x.2.2,contract (T := T0) (fn := Tryz.f184) hm0 hT0 (by kernel_rfl) (by kernel_rfl) (L := []) (C := xf.C) (by kernel_rfl) (by decide) rfl (by kernel_rfl) (loops_fn xf.d trivial) (xf.e),none⟩
def zW.hd : Sig := [⟨false,0,(.imm (.list (.int .u32)))⟩,⟨false,1,(.imm (.int .u32))⟩]
def zW.os : List Sig := [[⟨false,0,.nilS⟩,⟨false,1,(.imm (.int .u32))⟩,⟨false,2,(.imm .bool)⟩],[⟨false,0,(.own 34 false 111 (.int .u32))⟩,⟨false,1,(.imm (.int .u32))⟩,⟨false,2,(.imm .bool)⟩]]
def zW.h0 : Sig := [⟨false,1,(.imm (.int .u32))⟩,⟨false,5,(.imm (.int .u32))⟩,⟨false,7,(.own 12 false 111 (.int .u32))⟩,⟨false,8,(.imm (.int .i64))⟩]
def zW.o0 : Outs := [((.exit 0),[⟨false,5,(.imm (.int .u32))⟩,⟨false,7,(.own 12 false 111 (.int .u32))⟩])]
def zW.C : List CutAt := []
def zW.env (k : Nat) : List (Kn P0 G0) := [yy.fn k,xf.fn]
theorem zW.d : distN (loopIds (Tryz.f165.body.getD .skip) 0) = true := by kernel_rfl
def zW.b0 (c0 : Int → Int → LI → Int → Option (Int × LI)) (x0 : Int) (x1 : Int) (x2 : LI) (x3 : Int) : Option (Int × LI) := (bif (decide (x3 ≥ (0 : Int))) then (bif (decide (((0 : Int) ≤ x3) ∧ (x3 < (((List.length x2) : Nat) : Int)))) then (Option.bind (xf.f x1 ((rdL (0 : Int) x2 x3),x0).1 ((rdL (0 : Int) x2 x3),x0).2) fun y6 => (bif (decide (((0 : Int) ≤ x3) ∧ (x3 < (((List.length x2) : Nat) : Int)))) then (c0 x0 y6.2 (List.set x2 (Int.toNat x3) y6.1) (IntKind.wrap .i64 (x3 - (1 : Int)))) else none)) else none) else (some (x1,x2)))
def zW.l0 : Nat → Int → Int → LI → Int → Option (Int × LI)
 | 0,_,_,_,_ => none
 | k + 1,x0,x1,x2,x3 => zW.b0 (zW.l0 k) x0 x1 x2 x3
noncomputable def zW.V0 x0 x1 x2 x3 := lim fun k => zW.l0 k x0 x1 x2 x3
theorem zW.v0 x0 x1 x2 x3 {y} (h : zW.b0 zW.V0 x0 x1 x2 x3 = some y) : zW.V0 x0 x1 x2 x3 = some y := Le.v (.succ (by unfold zW.l0 zW.b0;repeat (first | with_reducible first | exact Le.const | refine Le.bind ?_ fun _ => ?_ | refine Le.cond ?_ ?_ | refine Le.elim (fun _ => ?_) fun _ => ?_ | exact Le.of rfl))) h
def zW.L0 (k : Nat) : LFn := ⟨zW.h0,zW.o0,fun x => zW.l0 k x.1 x.2.1 x.2.2.1 x.2.2.2⟩
theorem zW.r0 (k : Nat) (x : Tup (sigTys zW.h0)) : roundK T0 (zW.env k) 36 72 [] zW.C (loopOf Tryz.f165 0) 0 zW.h0 zW.o0 (zW.L0 k).f x = (zW.L0 (k + 1)).f x := by kernel_rfl
theorem zW.s0 (k : Nat) : LoopSound P0 G0 36 72 (sigPins zW.hd) (zW.L0 k) (loopOf Tryz.f165 0) := loop_rounds (T := T0) hm0 hT0 (env := fun k => (zW.env k)) (nh := 72) (pn := sigPins zW.hd) (L := fun k => []) (C := zW.C) (by kernel_rfl) (hd := zW.h0) (os := zW.o0) (by kernel_rfl) (by kernel_rfl) (by kernel_rfl) (g := fun k => (zW.L0 k).f) (fun k => loops_in zW.d trivial) (fun _ => rfl) (fun k x => zW.r0 k x) k
def zW.b (c0 : LI → Option LI) (c1 : Int → Int → LI → Int → Option (Int × LI)) (a0 : LI) (a1 : Int) : Option ((Int × Bool) ⊕ (LI × Int × Bool)) := (bif (a1 == (0 : Int)) then (some (Sum.inl ((0 : Int),false))) else (Option.bind (c0 a0) fun y3 => (Option.bind (c1 a1 ((0 : Int),(y3,(IntKind.wrap .i64 ((((List.length y3) : Nat) : Int) - (1 : Int))))).1 ((0 : Int),(y3,(IntKind.wrap .i64 ((((List.length y3) : Nat) : Int) - (1 : Int))))).2.1 ((0 : Int),(y3,(IntKind.wrap .i64 ((((List.length y3) : Nat) : Int) - (1 : Int))))).2.2) fun y4 => (Option.bind (c0 y4.2) fun y5 => (some (Sum.inr (y5,(y4.1,true))))))))
def zW.f (k : Nat) a0 a1 := zW.b (yy.f k) (zW.l0 k) a0 a1
noncomputable def zW.V a0 a1 := lim fun k => zW.f k a0 a1
theorem zW.v a0 a1 {y} (h : zW.b yy.V zW.V0 a0 a1 = some y) : zW.V a0 a1 = some y := Le.v (by unfold zW.f zW.b;repeat (first | with_reducible first | exact Le.const | refine Le.bind ?_ fun _ => ?_ | refine Le.cond ?_ ?_ | refine Le.elim (fun _ => ?_) fun _ => ?_ | exact Le.of rfl)) h
theorem zW.e (k : Nat) (x : Tup (sigTys zW.hd)) : fnK T0 (zW.env k) [⟨0,zW.L0 k⟩] zW.C Tryz.f165 2 72 zW.hd zW.os x = zW.f k x.1 x.2 := by kernel_rfl
def zW.fn (k : Nat) : Kn P0 G0 := ⟨165,2,72,zW.hd,3,zW.os,fun x => zW.f k x.1 x.2,contract (T := T0) (fn := Tryz.f165) hm0 hT0 (by kernel_rfl) (by kernel_rfl) (L := [⟨0,zW.L0 k⟩]) (C := zW.C) (by kernel_rfl) (by decide) rfl (by kernel_rfl) (loops_fn zW.d ⟨zW.s0 k,trivial⟩) (zW.e k),none⟩
def zf.hd : Sig := [⟨false,0,(.imm (.list (.int .u32)))⟩]
def zf.os : List Sig := [[⟨false,0,(.imm .str)⟩]]
def zf.h0 : Sig := [⟨false,3,(.own 28 false 5 (.int .u8))⟩,⟨false,4,(.own 16 false 111 (.int .u32))⟩,⟨false,5,(.imm (.int .u32))⟩,⟨false,20,(.imm (.int .i64))⟩]
def zf.o0 : Outs := [((.exit 2),[⟨false,3,(.own 28 false 5 (.int .u8))⟩,⟨false,4,(.own 16 false 111 (.int .u32))⟩])]
def zf.h1 : Sig := [⟨false,0,(.own 8 false 111 (.int .u32))⟩,⟨false,3,(.own 28 false 5 (.int .u8))⟩]
def zf.o1 : Outs := [((.exit 0),[⟨false,3,(.own 28 false 5 (.int .u8))⟩])]
def zf.h2 : Sig := [⟨false,3,(.own 28 false 5 (.int .u8))⟩]
def zf.o2 : Outs := [((.exit 4),[⟨false,3,(.own 28 false 5 (.int .u8))⟩])]
def zf.C : List CutAt := []
def zf.env (k : Nat) : List (Kn P0 G0) := [yy.fn k,zW.fn k,wd.fn]
theorem zf.d : distN (loopIds (Tryz.f138.body.getD .skip) 0) = true := by kernel_rfl
def zf.b0 (c0 : LI → LI → Int → Int → Option (LI × LI)) (x0 : LI) (x1 : LI) (x2 : Int) (x3 : Int) : Option (LI × LI) := (bif (decide (x3 < (9 : Int))) then (bif (decide (((List.length x0) + (List.length ((IntKind.wrap .u8 ((48 : Int) + (IntKind.wrap .u8 (Int.tmod x2 (10 : Int))))) :: ([] : LI)))) ≤ 68719476736)) then (c0 (x0 ++ ((IntKind.wrap .u8 ((48 : Int) + (IntKind.wrap .u8 (Int.tmod x2 (10 : Int))))) :: ([] : LI))) x1 (IntKind.wrap .u32 (Int.tdiv x2 (10 : Int))) (IntKind.wrap .i64 (x3 + (1 : Int)))) else none) else (some (x0,x1)))
def zf.l0 : Nat → LI → LI → Int → Int → Option (LI × LI)
 | 0,_,_,_,_ => none
 | k + 1,x0,x1,x2,x3 => zf.b0 (zf.l0 k) x0 x1 x2 x3
noncomputable def zf.V0 x0 x1 x2 x3 := lim fun k => zf.l0 k x0 x1 x2 x3
theorem zf.v0 x0 x1 x2 x3 {y} (h : zf.b0 zf.V0 x0 x1 x2 x3 = some y) : zf.V0 x0 x1 x2 x3 = some y := Le.v (.succ (by unfold zf.l0 zf.b0;repeat (first | with_reducible first | exact Le.const | refine Le.bind ?_ fun _ => ?_ | refine Le.cond ?_ ?_ | refine Le.elim (fun _ => ?_) fun _ => ?_ | exact Le.of rfl))) h
def zf.L0 (k : Nat) : LFn := ⟨zf.h0,zf.o0,fun x => zf.l0 k x.1 x.2.1 x.2.2.1 x.2.2.2⟩
theorem zf.r0 (k : Nat) (x : Tup (sigTys zf.h0)) : roundK T0 (zf.env k) 57 114 [] zf.C (loopOf Tryz.f138 2) 2 zf.h0 zf.o0 (zf.L0 k).f x = (zf.L0 (k + 1)).f x := by kernel_rfl
theorem zf.s0 (k : Nat) : LoopSound P0 G0 57 114 (sigPins zf.hd) (zf.L0 k) (loopOf Tryz.f138 2) := loop_rounds (T := T0) hm0 hT0 (env := fun k => (zf.env k)) (nh := 114) (pn := sigPins zf.hd) (L := fun k => []) (C := zf.C) (by kernel_rfl) (hd := zf.h0) (os := zf.o0) (by kernel_rfl) (by kernel_rfl) (by kernel_rfl) (g := fun k => (zf.L0 k).f) (fun k => loops_in zf.d trivial) (fun _ => rfl) (fun k x => zf.r0 k x) k
def zf.b1 (c0 : LI → Int → Option ((Int × Bool) ⊕ (LI × Int × Bool))) (c1 : LI → LI → Int → Int → Option (LI × LI)) (c2 : LI → LI → Option LI) (x0 : LI) (x1 : LI) : Option LI := (bif (decide ((((List.length x0) : Nat) : Int) > (0 : Int))) then (Option.bind (c0 x0 (rdL (0 : Int) gv0 (9 : Int))) fun y4 => (Sum.elim (fun y5 => (Option.bind (c1 x1 (([] : LI),(y5.1,(0 : Int))).1 (([] : LI),(y5.1,(0 : Int))).2.1 (([] : LI),(y5.1,(0 : Int))).2.2) fun y6 => (c2 y6.2 y6.1))) (fun y5 => (Option.bind (c1 x1 (y5.1,(y5.2.1,(0 : Int))).1 (y5.1,(y5.2.1,(0 : Int))).2.1 (y5.1,(y5.2.1,(0 : Int))).2.2) fun y6 => (c2 y6.2 y6.1))) y4)) else (some x1))
def zf.l1 : Nat → LI → LI → Option LI
 | 0,_,_ => none
 | k + 1,x0,x1 => zf.b1 (zW.f k) (zf.l0 k) (zf.l1 k) x0 x1
noncomputable def zf.V1 x0 x1 := lim fun k => zf.l1 k x0 x1
theorem zf.v1 x0 x1 {y} (h : zf.b1 zW.V zf.V0 zf.V1 x0 x1 = some y) : zf.V1 x0 x1 = some y := Le.v (.succ (by unfold zf.l1 zf.b1;repeat (first | with_reducible first | exact Le.const | refine Le.bind ?_ fun _ => ?_ | refine Le.cond ?_ ?_ | refine Le.elim (fun _ => ?_) fun _ => ?_ | exact Le.of rfl))) h
def zf.L1 (k : Nat) : LFn := ⟨zf.h1,zf.o1,fun x => zf.l1 k x.1 x.2⟩
theorem zf.r1 (k : Nat) (x : Tup (sigTys zf.h1)) : roundK T0 (zf.env k) 57 114 [⟨2,zf.L0 k⟩] zf.C (loopOf Tryz.f138 0) 0 zf.h1 zf.o1 (zf.L1 k).f x = (zf.L1 (k + 1)).f x := by kernel_rfl
theorem zf.s1 (k : Nat) : LoopSound P0 G0 57 114 (sigPins zf.hd) (zf.L1 k) (loopOf Tryz.f138 0) := loop_rounds (T := T0) hm0 hT0 (env := fun k => (zf.env k)) (nh := 114) (pn := sigPins zf.hd) (L := fun k => [⟨2,zf.L0 k⟩]) (C := zf.C) (by kernel_rfl) (hd := zf.h1) (os := zf.o1) (by kernel_rfl) (by kernel_rfl) (by kernel_rfl) (g := fun k => (zf.L1 k).f) (fun k => loops_in zf.d ⟨zf.s0 k,trivial⟩) (fun _ => rfl) (fun k x => zf.r1 k x) k
def zf.b2 (c0 : LI → Option LI) (x0 : LI) : Option LI := (bif (decide ((((List.length x0) : Nat) : Int) > (0 : Int))) then (bif (decide (((0 : Int) ≤ (IntKind.wrap .i64 ((((List.length x0) : Nat) : Int) - (1 : Int)))) ∧ ((IntKind.wrap .i64 ((((List.length x0) : Nat) : Int) - (1 : Int))) < (((List.length x0) : Nat) : Int)))) then (bif ((rdL (0 : Int) x0 (IntKind.wrap .i64 ((((List.length x0) : Nat) : Int) - (1 : Int)))) == (48 : Int)) then (bif (decide (((0 : Int) ≤ (IntKind.wrap .i64 ((((List.length x0) : Nat) : Int) - (1 : Int)))) ∧ ((IntKind.wrap .i64 ((((List.length x0) : Nat) : Int) - (1 : Int))) ≤ (((List.length x0) : Nat) : Int)))) then (c0 (List.take (Int.toNat ((IntKind.wrap .i64 ((((List.length x0) : Nat) : Int) - (1 : Int))) - (0 : Int))) x0)) else none) else (some x0)) else none) else (some x0))
def zf.l2 : Nat → LI → Option LI
 | 0,_ => none
 | k + 1,x0 => zf.b2 (zf.l2 k) x0
noncomputable def zf.V2 x0 := lim fun k => zf.l2 k x0
theorem zf.v2 x0 {y} (h : zf.b2 zf.V2 x0 = some y) : zf.V2 x0 = some y := Le.v (.succ (by unfold zf.l2 zf.b2;repeat (first | with_reducible first | exact Le.const | refine Le.bind ?_ fun _ => ?_ | refine Le.cond ?_ ?_ | refine Le.elim (fun _ => ?_) fun _ => ?_ | exact Le.of rfl))) h
def zf.L2 (k : Nat) : LFn := ⟨zf.h2,zf.o2,fun x => zf.l2 k x⟩
theorem zf.r2 (k : Nat) (x : Tup (sigTys zf.h2)) : roundK T0 (zf.env k) 57 114 [] zf.C (loopOf Tryz.f138 4) 4 zf.h2 zf.o2 (zf.L2 k).f x = (zf.L2 (k + 1)).f x := by kernel_rfl
theorem zf.s2 (k : Nat) : LoopSound P0 G0 57 114 (sigPins zf.hd) (zf.L2 k) (loopOf Tryz.f138 4) := loop_rounds (T := T0) hm0 hT0 (env := fun k => (zf.env k)) (nh := 114) (pn := sigPins zf.hd) (L := fun k => []) (C := zf.C) (by kernel_rfl) (hd := zf.h2) (os := zf.o2) (by kernel_rfl) (by kernel_rfl) (by kernel_rfl) (g := fun k => (zf.L2 k).f) (fun k => loops_in zf.d trivial) (fun _ => rfl) (fun k x => zf.r2 k x) k
def zf.b (c0 : LI → Option LI) (c1 : LI → LI → Option LI) (c2 : LI → Option LI) (a0 : LI) : Option (ByteArray) := (Option.bind (c0 a0) fun y2 => (Option.bind (c1 y2 ([] : LI)) fun y3 => (Option.bind (c2 y3) fun y4 => (bif ((((List.length y4) : Nat) : Int) == (0 : Int)) then (some (ByteArray.mk #[48])) else (some (bytesA (List.reverse y4)))))))
def zf.f (k : Nat) a0 := zf.b (yy.f k) (zf.l1 k) (zf.l2 k) a0
noncomputable def zf.V a0 := lim fun k => zf.f k a0
theorem zf.v a0 {y} (h : zf.b yy.V zf.V1 zf.V2 a0 = some y) : zf.V a0 = some y := Le.v (by unfold zf.f zf.b;repeat (first | with_reducible first | exact Le.const | refine Le.bind ?_ fun _ => ?_ | refine Le.cond ?_ ?_ | refine Le.elim (fun _ => ?_) fun _ => ?_ | exact Le.of rfl)) h
theorem zf.e (k : Nat) (x : Tup (sigTys zf.hd)) : fnK T0 (zf.env k) [⟨2,zf.L0 k⟩,⟨0,zf.L1 k⟩,⟨4,zf.L2 k⟩] zf.C Tryz.f138 1 114 zf.hd zf.os x = zf.f k x := by kernel_rfl
def zf.fn (k : Nat) : Kn P0 G0 := ⟨138,1,114,zf.hd,1,zf.os,fun x => zf.f k x,contract (T := T0) (fn := Tryz.f138) hm0 hT0 (by kernel_rfl) (by kernel_rfl) (L := [⟨2,zf.L0 k⟩,⟨0,zf.L1 k⟩,⟨4,zf.L2 k⟩]) (C := zf.C) (by kernel_rfl) (by decide) rfl (by kernel_rfl) (loops_fn zf.d ⟨zf.s0 k,zf.s1 k,zf.s2 k,trivial⟩) (zf.e k),none⟩
def yW.hd : Sig := [⟨false,0,(.imm api_Int)⟩]
def yW.os : List Sig := [[⟨false,0,(.imm .str)⟩]]
def yW.C : List CutAt := []
def yW.env (k : Nat) : List (Kn P0 G0) := [yG.fn k,zf.fn k]
theorem yW.d : distN (loopIds (Tryz.f137.body.getD .skip) 0) = true := by kernel_rfl
def yW.b (c0 : WH → Option (Bool × LI)) (c1 : LI → Option (ByteArray)) (a0 : WH) : Option (ByteArray) := (Option.bind (c0 a0) fun y2 => (bif y2.1 then (Option.bind (c1 y2.2) fun y3 => (bif (decide (((ByteArray.size (ByteArray.mk #[45])) + (ByteArray.size y3)) ≤ 68719476736)) then (some ((ByteArray.mk #[45]) ++ y3)) else none)) else (Option.bind (c1 y2.2) fun y3 => (some y3))))
def yW.f (k : Nat) a0 := yW.b (yG.f k) (zf.f k) a0
noncomputable def yW.V a0 := lim fun k => yW.f k a0
theorem yW.v a0 {y} (h : yW.b yG.V zf.V a0 = some y) : yW.V a0 = some y := Le.v (by unfold yW.f yW.b;repeat (first | with_reducible first | exact Le.const | refine Le.bind ?_ fun _ => ?_ | refine Le.cond ?_ ?_ | refine Le.elim (fun _ => ?_) fun _ => ?_ | exact Le.of rfl)) h
theorem yW.e (k : Nat) (x : Tup (sigTys yW.hd)) : fnK T0 (yW.env k) [] yW.C Tryz.f137 1 28 yW.hd yW.os x = yW.f k x := by kernel_rfl
def yW.fn (k : Nat) : Kn P0 G0 := ⟨137,1,28,yW.hd,1,yW.os,fun x => yW.f k x,contract (T := T0) (fn := Tryz.f137) hm0 hT0 (by kernel_rfl) (by kernel_rfl) (L := []) (C := yW.C) (by kernel_rfl) (by decide) rfl (by kernel_rfl) (loops_fn yW.d trivial) (yW.e k),none⟩
def yw.hd : Sig := [⟨false,0,(.imm api_Rat)⟩]
def yw.os : List Sig := [[⟨false,0,(.imm .str)⟩]]
def yw.C : List CutAt := []
def yw.env (k : Nat) : List (Kn P0 G0) := [yB.fn k,yW.fn k,zf.fn k]
theorem yw.d : distN (loopIds (Tryz.f100.body.getD .skip) 0) = true := by kernel_rfl
def yw.b (c0 : RA → Option Bool) (c1 : WH → Option (ByteArray)) (c2 : LI → Option (ByteArray)) (a0 : RA) : Option (ByteArray) := (Option.bind (c0 a0) fun y2 => (bif (!y2) then (some (ByteArray.mk #[])) else (Option.bind (c1 a0.1) fun y3 => (Option.bind (c2 a0.2.1) fun y4 => (bif (!(strEq y4 (ByteArray.mk #[49]))) then (bif (decide (((ByteArray.size (ByteArray.mk #[47])) + (ByteArray.size y4)) ≤ 68719476736)) then (bif (decide (((ByteArray.size y3) + (ByteArray.size ((ByteArray.mk #[47]) ++ y4))) ≤ 68719476736)) then (some (y3 ++ ((ByteArray.mk #[47]) ++ y4))) else none) else none) else (some y3))))))
def yw.f (k : Nat) a0 := yw.b (yB.f k) (yW.f k) (zf.f k) a0
noncomputable def yw.V a0 := lim fun k => yw.f k a0
theorem yw.v a0 {y} (h : yw.b yB.V yW.V zf.V a0 = some y) : yw.V a0 = some y := Le.v (by unfold yw.f yw.b;repeat (first | with_reducible first | exact Le.const | refine Le.bind ?_ fun _ => ?_ | refine Le.cond ?_ ?_ | refine Le.elim (fun _ => ?_) fun _ => ?_ | exact Le.of rfl)) h
theorem yw.e (k : Nat) (x : Tup (sigTys yw.hd)) : fnK T0 (yw.env k) [] yw.C Tryz.f100 1 42 yw.hd yw.os x = yw.f k x := by kernel_rfl
def yw.fn (k : Nat) : Kn P0 G0 := ⟨100,1,42,yw.hd,1,yw.os,fun x => yw.f k x,contract (T := T0) (fn := Tryz.f100) hm0 hT0 (by kernel_rfl) (by kernel_rfl) (L := []) (C := yw.C) (by kernel_rfl) (by decide) rfl (by kernel_rfl) (loops_fn yw.d trivial) (yw.e k),none⟩
def zn.hd : Sig := [⟨true,108,(.agg simple_maker (.acons (.own 106 false 42 api_Term) (.acons (.mp 107 simple_face (.int .i64)) .anil)))⟩,⟨false,0,(.ptr 108 [] simple_maker)⟩,⟨false,1,(.imm api_Term)⟩]
def zn.os : List Sig := [[⟨true,108,(.agg simple_maker (.acons (.own 106 false 42 api_Term) (.acons (.mp 107 simple_face (.int .i64)) .anil)))⟩,⟨false,0,(.imm (.int .i64))⟩]]
def zn.C : List CutAt := []
def zn.env (k : Nat) : List (Kn P0 G0) := [yw.fn k]
theorem zn.d : distN (loopIds (Tryz.f59.body.getD .skip) 0) = true := by kernel_rfl
def zn.b (c0 : RA → Option (ByteArray)) (a0 : CO) (a1 : MP) (a2 : TE) : Option (CO × MP × Int) := (Option.bind (c0 a2.2.2.2.2.1) fun y4 => (bif (!(hasM simple_face (.int .i64) (a2.1,(a2.2.1,(a2.2.2.1,(a2.2.2.2.1,(y4,()))))) a1)) then (bif (decide (((List.length a0) + (List.length (a2 :: ([] : CO)))) ≤ 68719476736)) then (some ((a0 ++ (a2 :: ([] : CO))),((setM simple_face (.int .i64) (a2.1,(a2.2.1,(a2.2.2.1,(a2.2.2.2.1,(y4,()))))) (((List.length a0) : Nat) : Int) a1),(((List.length a0) : Nat) : Int)))) else none) else (some (a0,(a1,(lookM simple_face (.int .i64) (a2.1,(a2.2.1,(a2.2.2.1,(a2.2.2.2.1,(y4,()))))) a1))))))
def zn.f (k : Nat) a0 a1 a2 := zn.b (yw.f k) a0 a1 a2
noncomputable def zn.V a0 a1 a2 := lim fun k => zn.f k a0 a1 a2
theorem zn.v a0 a1 a2 {y} (h : zn.b yw.V a0 a1 a2 = some y) : zn.V a0 a1 a2 = some y := Le.v (by unfold zn.f zn.b;repeat (first | with_reducible first | exact Le.const | refine Le.bind ?_ fun _ => ?_ | refine Le.cond ?_ ?_ | refine Le.elim (fun _ => ?_) fun _ => ?_ | exact Le.of rfl)) h
theorem zn.e (k : Nat) (x : Tup (sigTys zn.hd)) : fnK T0 (zn.env k) [] zn.C Tryz.f59 2 109 zn.hd zn.os x = zn.f k x.1 x.2.1 x.2.2 := by kernel_rfl
def zn.fn (k : Nat) : Kn P0 G0 := ⟨59,2,109,zn.hd,1,zn.os,fun x => zn.f k x.1 x.2.1 x.2.2,contract (T := T0) (fn := Tryz.f59) hm0 hT0 (by kernel_rfl) (by kernel_rfl) (L := []) (C := zn.C) (by kernel_rfl) (by decide) rfl (by kernel_rfl) (loops_fn zn.d trivial) (zn.e k),none⟩
def zm.hd : Sig := [⟨true,24,(.agg simple_maker (.acons (.own 22 false 42 api_Term) (.acons (.mp 23 simple_face (.int .i64)) .anil)))⟩,⟨false,0,(.ptr 24 [] simple_maker)⟩,⟨false,1,(.imm api_Rat)⟩]
def zm.os : List Sig := [[⟨true,24,(.agg simple_maker (.acons (.own 22 false 42 api_Term) (.acons (.mp 23 simple_face (.int .i64)) .anil)))⟩,⟨false,0,(.imm (.int .i64))⟩]]
def zm.C : List CutAt := []
def zm.env (k : Nat) : List (Kn P0 G0) := [xz.fn k,zn.fn k]
theorem zm.d : distN (loopIds (Tryz.f52.body.getD .skip) 0) = true := by kernel_rfl
def zm.b (c0 : RA → Option (Bool × LI × LI)) (c1 : CO → MP → TE → Option (CO × MP × Int)) (a0 : CO) (a1 : MP) (a2 : RA) : Option (CO × MP × Int) := (Option.bind (c0 a2) fun y4 => (Option.bind (c0 ((y4.1,(y4.2.1,())),(y4.2.2,()))) fun y5 => (Option.bind (c1 a0 (a1,((1 : Int),((0 : Int),((0 : Int),((0 : Int),(((y5.1,(y5.2.1,())),(y5.2.2,())),())))))).1 (a1,((1 : Int),((0 : Int),((0 : Int),((0 : Int),(((y5.1,(y5.2.1,())),(y5.2.2,())),())))))).2) fun y6 => (some (y6.1,(y6.2.1,y6.2.2))))))
def zm.f (k : Nat) a0 a1 a2 := zm.b (xz.f k) (zn.f k) a0 a1 a2
noncomputable def zm.V a0 a1 a2 := lim fun k => zm.f k a0 a1 a2
theorem zm.v a0 a1 a2 {y} (h : zm.b xz.V zn.V a0 a1 a2 = some y) : zm.V a0 a1 a2 = some y := Le.v (by unfold zm.f zm.b;repeat (first | with_reducible first | exact Le.const | refine Le.bind ?_ fun _ => ?_ | refine Le.cond ?_ ?_ | refine Le.elim (fun _ => ?_) fun _ => ?_ | exact Le.of rfl)) h
theorem zm.e (k : Nat) (x : Tup (sigTys zm.hd)) : fnK T0 (zm.env k) [] zm.C Tryz.f52 2 25 zm.hd zm.os x = zm.f k x.1 x.2.1 x.2.2 := by kernel_rfl
def zm.fn (k : Nat) : Kn P0 G0 := ⟨52,2,25,zm.hd,1,zm.os,fun x => zm.f k x.1 x.2.1 x.2.2,contract (T := T0) (fn := Tryz.f52) hm0 hT0 (by kernel_rfl) (by kernel_rfl) (L := []) (C := zm.C) (by kernel_rfl) (by decide) rfl (by kernel_rfl) (loops_fn zm.d trivial) (zm.e k),none⟩
def zG.hd : Sig := [⟨true,48,(.agg simple_maker (.acons (.own 46 false 42 api_Term) (.acons (.mp 47 simple_face (.int .i64)) .anil)))⟩,⟨false,0,(.ptr 48 [] simple_maker)⟩,⟨false,1,(.imm (.int .i64))⟩]
def zG.os : List Sig := [[⟨true,48,(.agg simple_maker (.acons (.own 46 false 42 api_Term) (.acons (.mp 47 simple_face (.int .i64)) .anil)))⟩,⟨false,0,(.imm api_Rat)⟩,⟨false,1,(.imm .bool)⟩]]
def zG.C : List CutAt := []
def zG.env : List (Kn P0 G0) := []
theorem zG.d : distN (loopIds (Tryz.f96.body.getD .skip) 0) = true := by kernel_rfl
def zG.f (a0 : CO) (a1 : MP) (a2 : Int) : Option (CO × MP × RA × Bool) := (bif (decide (((0 : Int) ≤ a2) ∧ (a2 < (((List.length a0) : Nat) : Int)))) then (bif (decide (((0 : Int) ≤ a2) ∧ (a2 < (((List.length a0) : Nat) : Int)))) then (some (a0,(a1,((rdL (Ty.zero api_Term) a0 a2).2.2.2.2.1,((rdL (Ty.zero api_Term) a0 a2).1 == (1 : Int)))))) else none) else none)
theorem zG.e (x : Tup (sigTys zG.hd)) : fnK T0 zG.env [] zG.C Tryz.f96 2 49 zG.hd zG.os x = zG.f x.1 x.2.1 x.2.2 := by kernel_rfl
def zG.fn : Kn P0 G0 := ⟨96,2,49,zG.hd,2,zG.os,fun x => zG.f x.1 x.2.1 x.2.2,contract (T := T0) (fn := Tryz.f96) hm0 hT0 (by kernel_rfl) (by kernel_rfl) (L := []) (C := zG.C) (by kernel_rfl) (by decide) rfl (by kernel_rfl) (loops_fn zG.d trivial) (zG.e),none⟩
def yk.hd : Sig := [⟨true,80,(.agg simple_maker (.acons (.own 78 false 42 api_Term) (.acons (.mp 79 simple_face (.int .i64)) .anil)))⟩,⟨false,0,(.ptr 80 [] simple_maker)⟩,⟨false,1,(.imm (.int .i64))⟩]
def yk.os : List Sig := [[⟨true,80,(.agg simple_maker (.acons (.own 78 false 42 api_Term) (.acons (.mp 79 simple_face (.int .i64)) .anil)))⟩,⟨false,0,(.imm (.int .i64))⟩]]
def yk.C : List CutAt := []
def yk.env (k : Nat) : List (Kn P0 G0) := [zG.fn,xz.fn k,zm.fn k,zn.fn k]
theorem yk.d : distN (loopIds (Tryz.f53.body.getD .skip) 0) = true := by kernel_rfl
def yk.b (c0 : RA → Option (Bool × LI × LI)) (c1 : CO → MP → RA → Option (CO × MP × Int)) (c2 : CO → MP → TE → Option (CO × MP × Int)) (a0 : CO) (a1 : MP) (a2 : Int) : Option (CO × MP × Int) := (Option.bind (zG.f a0 (a1,a2).1 (a1,a2).2) fun y4 => (bif y4.2.2.2 then (Option.bind (c0 y4.2.2.1) fun y5 => (Option.bind (c1 y4.1 (y4.2.1,((y5.1,(y5.2.1,())),(y5.2.2,()))).1 (y4.2.1,((y5.1,(y5.2.1,())),(y5.2.2,()))).2) fun y6 => (some (y6.1,(y6.2.1,y6.2.2))))) else (bif (decide (((0 : Int) ≤ a2) ∧ (a2 < (((List.length y4.1) : Nat) : Int)))) then (bif ((rdL (Ty.zero api_Term) y4.1 a2).1 == (7 : Int)) then (bif (decide (((0 : Int) ≤ a2) ∧ (a2 < (((List.length y4.1) : Nat) : Int)))) then (some (y4.1,(y4.2.1,(rdL (Ty.zero api_Term) y4.1 a2).2.1))) else none) else (Option.bind (c2 y4.1 (y4.2.1,((7 : Int),(a2,((0 : Int),((0 : Int),(((false,(([] : LI),())),(([] : LI),())),())))))).1 (y4.2.1,((7 : Int),(a2,((0 : Int),((0 : Int),(((false,(([] : LI),())),(([] : LI),())),())))))).2) fun y5 => (some (y5.1,(y5.2.1,y5.2.2))))) else none)))
def yk.f (k : Nat) a0 a1 a2 := yk.b (xz.f k) (zm.f k) (zn.f k) a0 a1 a2
noncomputable def yk.V a0 a1 a2 := lim fun k => yk.f k a0 a1 a2
theorem yk.v a0 a1 a2 {y} (h : yk.b xz.V zm.V zn.V a0 a1 a2 = some y) : yk.V a0 a1 a2 = some y := Le.v (by unfold yk.f yk.b;repeat (first | with_reducible first | exact Le.const | refine Le.bind ?_ fun _ => ?_ | refine Le.cond ?_ ?_ | refine Le.elim (fun _ => ?_) fun _ => ?_ | exact Le.of rfl)) h
theorem yk.e (k : Nat) (x : Tup (sigTys yk.hd)) : fnK T0 (yk.env k) [] yk.C Tryz.f53 2 81 yk.hd yk.os x = yk.f k x.1 x.2.1 x.2.2 := by kernel_rfl
def yk.fn (k : Nat) : Kn P0 G0 := ⟨53,2,81,yk.hd,1,yk.os,fun x => yk.f k x.1 x.2.1 x.2.2,contract (T := T0) (fn := Tryz.f53) hm0 hT0 (by kernel_rfl) (by kernel_rfl) (L := []) (C := yk.C) (by kernel_rfl) (by decide) rfl (by kernel_rfl) (loops_fn yk.d trivial) (yk.e k),none⟩
def yY.hd : Sig := [⟨false,0,(.imm api_Int)⟩,⟨false,1,(.imm api_Int)⟩]
def yY.os : List Sig := [[⟨false,0,(.agg api_Int (.acons (.imm .bool) (.acons (.own 15 false 111 (.int .u32)) .anil)))⟩]]
def yY.C : List CutAt := []
def yY.env (k : Nat) : List (Kn P0 G0) := [zC.fn k,yD.fn k]
theorem yY.d : distN (loopIds (Tryz.f118.body.getD .skip) 0) = true := by kernel_rfl
def yY.b (c0 : LI → LI → Option LI) (c1 : Bool → LI → Option (Bool × LI)) (a0 : WH) (a1 : WH) : Option (Bool × LI) := (Option.bind (c0 a0.2.1 a1.2.1) fun y3 => (Option.bind (c1 (!(a0.1 == a1.1)) y3) fun y4 => (some (y4.1,y4.2))))
def yY.f (k : Nat) a0 a1 := yY.b (zC.f k) (yD.f k) a0 a1
noncomputable def yY.V a0 a1 := lim fun k => yY.f k a0 a1
theorem yY.v a0 a1 {y} (h : yY.b zC.V yD.V a0 a1 = some y) : yY.V a0 a1 = some y := Le.v (by unfold yY.f yY.b;repeat (first | with_reducible first | exact Le.const | refine Le.bind ?_ fun _ => ?_ | refine Le.cond ?_ ?_ | refine Le.elim (fun _ => ?_) fun _ => ?_ | exact Le.of rfl)) h
theorem yY.e (k : Nat) (x : Tup (sigTys yY.hd)) : fnK T0 (yY.env k) [] yY.C Tryz.f118 2 32 yY.hd yY.os x = yY.f k x.1 x.2 := by kernel_rfl
def yY.fn (k : Nat) : Kn P0 G0 := ⟨118,2,32,yY.hd,1,yY.os,fun x => yY.f k x.1 x.2,contract (T := T0) (fn := Tryz.f118) hm0 hT0 (by kernel_rfl) (by kernel_rfl) (L := []) (C := yY.C) (by kernel_rfl) (by decide) rfl (by kernel_rfl) (loops_fn yY.d trivial) (yY.e k),none⟩
def xd.hd : Sig := [⟨false,0,(.imm api_Rat)⟩,⟨false,1,(.imm api_Rat)⟩]
def xd.os : List Sig := [[⟨false,0,(.agg api_Int (.acons (.imm .bool) (.acons (.own 10 false 111 (.int .u32)) .anil)))⟩]]
def xd.C : List CutAt := []
def xd.env (k : Nat) : List (Kn P0 G0) := [yY.fn k]
theorem xd.d : distN (loopIds (Tryz.f116.body.getD .skip) 0) = true := by kernel_rfl
def xd.b (c0 : WH → WH → Option (Bool × LI)) (a0 : RA) (a1 : RA) : Option (Bool × LI) := (Option.bind (c0 a0.1 (false,(a1.2.1,()))) fun y3 => (some (y3.1,y3.2)))
def xd.f (k : Nat) a0 a1 := xd.b (yY.f k) a0 a1
noncomputable def xd.V a0 a1 := lim fun k => xd.f k a0 a1
theorem xd.v a0 a1 {y} (h : xd.b yY.V a0 a1 = some y) : xd.V a0 a1 = some y := Le.v (by unfold xd.f xd.b;repeat (first | with_reducible first | exact Le.const | refine Le.bind ?_ fun _ => ?_ | refine Le.cond ?_ ?_ | refine Le.elim (fun _ => ?_) fun _ => ?_ | exact Le.of rfl)) h
theorem xd.e (k : Nat) (x : Tup (sigTys xd.hd)) : fnK T0 (xd.env k) [] xd.C Tryz.f116 2 22 xd.hd xd.os x = xd.f k x.1 x.2 := by kernel_rfl
def xd.fn (k : Nat) : Kn P0 G0 := ⟨116,2,22,xd.hd,1,xd.os,fun x => xd.f k x.1 x.2,contract (T := T0) (fn := Tryz.f116) hm0 hT0 (by kernel_rfl) (by kernel_rfl) (L := []) (C := xd.C) (by kernel_rfl) (by decide) rfl (by kernel_rfl) (loops_fn xd.d trivial) (xd.e k),none⟩
def xg.hd : Sig := [⟨false,0,(.imm (.int .u32))⟩,⟨false,1,(.imm (.int .u32))⟩,⟨false,2,(.imm (.int .u32))⟩]
def xg.os : List Sig := [[⟨false,0,(.imm (.int .u32))⟩,⟨false,1,(.imm (.int .u32))⟩]]
def xg.C : List CutAt := []
def xg.env : List (Kn P0 G0) := []
theorem xg.d : distN (loopIds (Tryz.f175.body.getD .skip) 0) = true := by kernel_rfl
def xg.f (a0 : Int) (a1 : Int) (a2 : Int) : Option (Int × Int) := (some ((IntKind.wrap .u32 (IntKind.wrap .u64 ((IntKind.wrap .u64 ((IntKind.wrap .u64 a0) + (IntKind.wrap .u64 a1))) + (IntKind.wrap .u64 a2)))),(IntKind.wrap .u32 (shrI .u64 (IntKind.wrap .u64 ((IntKind.wrap .u64 ((IntKind.wrap .u64 a0) + (IntKind.wrap .u64 a1))) + (IntKind.wrap .u64 a2))) (32 : Int)))))
theorem xg.e (x : Tup (sigTys xg.hd)) : fnK T0 xg.env [] xg.C Tryz.f175 3 44 xg.hd xg.os x = xg.f x.1 x.2.1 x.2.2 := by kernel_rfl
def xg.fn : Kn P0 G0 := ⟨175,3,44,xg.hd,2,xg.os,fun x => xg.f x.1 x.2.1 x.2.2,contract (T := T0) (fn := Tryz.f175) hm0 hT0 (by kernel_rfl) (by kernel_rfl) (L := []) (C := xg.C) (by kernel_rfl) (by decide) rfl (by kernel_rfl) (loops_fn xg.d trivial) (xg.e),none⟩
def yx.hd : Sig := [⟨false,0,(.imm (.list (.int .u32)))⟩,⟨false,1,(.imm (.list (.int .u32)))⟩]
def yx.os : List Sig := [[⟨false,0,(.own 39 false 111 (.int .u32))⟩]]
def yx.h0 : Sig := [⟨false,0,(.imm (.list (.int .u32)))⟩,⟨false,1,(.imm (.list (.int .u32)))⟩,⟨false,5,(.own 14 false 111 (.int .u32))⟩,⟨false,6,(.imm (.int .u32))⟩,⟨false,19,(.imm (.int .i64))⟩,⟨false,20,(.imm (.int .i64))⟩]
def yx.o0 : Outs := [((.exit 0),[⟨false,5,(.own 14 false 111 (.int .u32))⟩])]
def yx.C : List CutAt := []
def yx.env (k : Nat) : List (Kn P0 G0) := [zX.fn k,wc.fn,xg.fn,yy.fn k]
theorem yx.d : distN (loopIds (Tryz.f154.body.getD .skip) 0) = true := by kernel_rfl
def yx.b0 (c0 : LI → LI → LI → Int → Int → Int → Option LI) (x0 : LI) (x1 : LI) (x2 : LI) (x3 : Int) (x4 : Int) (x5 : Int) : Option LI := (bif (decide (x5 < x4)) then (Option.bind (wc.f x0 x5) fun y8 => (Option.bind (wc.f x1 x5) fun y9 => (Option.bind (xg.f y8 (y9,x3).1 (y9,x3).2) fun y10 => (bif (decide (((0 : Int) ≤ x5) ∧ (x5 < (((List.length x2) : Nat) : Int)))) then (c0 x0 x1 (List.set x2 (Int.toNat x5) y10.1) y10.2 x4 (IntKind.wrap .i64 (x5 + (1 : Int)))) else none)))) else (some x2))
def yx.l0 : Nat → LI → LI → LI → Int → Int → Int → Option LI
 | 0,_,_,_,_,_,_ => none
 | k + 1,x0,x1,x2,x3,x4,x5 => yx.b0 (yx.l0 k) x0 x1 x2 x3 x4 x5
noncomputable def yx.V0 x0 x1 x2 x3 x4 x5 := lim fun k => yx.l0 k x0 x1 x2 x3 x4 x5
theorem yx.v0 x0 x1 x2 x3 x4 x5 {y} (h : yx.b0 yx.V0 x0 x1 x2 x3 x4 x5 = some y) : yx.V0 x0 x1 x2 x3 x4 x5 = some y := Le.v (.succ (by unfold yx.l0 yx.b0;repeat (first | with_reducible first | exact Le.const | refine Le.bind ?_ fun _ => ?_ | refine Le.cond ?_ ?_ | refine Le.elim (fun _ => ?_) fun _ => ?_ | exact Le.of rfl))) h
def yx.L0 (k : Nat) : LFn := ⟨yx.h0,yx.o0,fun x => yx.l0 k x.1 x.2.1 x.2.2.1 x.2.2.2.1 x.2.2.2.2.1 x.2.2.2.2.2⟩
theorem yx.r0 (k : Nat) (x : Tup (sigTys yx.h0)) : roundK T0 (yx.env k) 40 80 [] yx.C (loopOf Tryz.f154 0) 0 yx.h0 yx.o0 (yx.L0 k).f x = (yx.L0 (k + 1)).f x := by kernel_rfl
theorem yx.s0 (k : Nat) : LoopSound P0 G0 40 80 (sigPins yx.hd) (yx.L0 k) (loopOf Tryz.f154 0) := loop_rounds (T := T0) hm0 hT0 (env := fun k => (yx.env k)) (nh := 80) (pn := sigPins yx.hd) (L := fun k => []) (C := yx.C) (by kernel_rfl) (hd := yx.h0) (os := yx.o0) (by kernel_rfl) (by kernel_rfl) (by kernel_rfl) (g := fun k => (yx.L0 k).f) (fun k => loops_in yx.d trivial) (fun _ => rfl) (fun k x => yx.r0 k x) k
def yx.b (c0 : LI → Option Int) (c1 : LI → LI → LI → Int → Int → Int → Option LI) (c2 : LI → Option LI) (a0 : LI) (a1 : LI) : Option LI := (Option.bind (c0 a0) fun y3 => (Option.bind (c0 a1) fun y4 => (bif (decide (((0 : Int) ≤ (IntKind.wrap .i64 ((mxI y3 y4) + (1 : Int)))) ∧ (((IntKind.wrap .i64 ((mxI y3 y4) + (1 : Int))) ≤ (IntKind.wrap .i64 ((mxI y3 y4) + (1 : Int)))) ∧ ((IntKind.wrap .i64 ((mxI y3 y4) + (1 : Int))) ≤ ((68719476736 : Nat) : Int))))) then (Option.bind (c1 a0 (a1,((copyL a0 (List.replicate (Int.toNat (IntKind.wrap .i64 ((mxI y3 y4) + (1 : Int)))) (0 : Int))),((0 : Int),((((List.length (copyL a0 (List.replicate (Int.toNat (IntKind.wrap .i64 ((mxI y3 y4) + (1 : Int)))) (0 : Int)))) : Nat) : Int),(0 : Int))))).1 (a1,((copyL a0 (List.replicate (Int.toNat (IntKind.wrap .i64 ((mxI y3 y4) + (1 : Int)))) (0 : Int))),((0 : Int),((((List.length (copyL a0 (List.replicate (Int.toNat (IntKind.wrap .i64 ((mxI y3 y4) + (1 : Int)))) (0 : Int)))) : Nat) : Int),(0 : Int))))).2.1 (a1,((copyL a0 (List.replicate (Int.toNat (IntKind.wrap .i64 ((mxI y3 y4) + (1 : Int)))) (0 : Int))),((0 : Int),((((List.length (copyL a0 (List.replicate (Int.toNat (IntKind.wrap .i64 ((mxI y3 y4) + (1 : Int)))) (0 : Int)))) : Nat) : Int),(0 : Int))))).2.2.1 (a1,((copyL a0 (List.replicate (Int.toNat (IntKind.wrap .i64 ((mxI y3 y4) + (1 : Int)))) (0 : Int))),((0 : Int),((((List.length (copyL a0 (List.replicate (Int.toNat (IntKind.wrap .i64 ((mxI y3 y4) + (1 : Int)))) (0 : Int)))) : Nat) : Int),(0 : Int))))).2.2.2.1 (a1,((copyL a0 (List.replicate (Int.toNat (IntKind.wrap .i64 ((mxI y3 y4) + (1 : Int)))) (0 : Int))),((0 : Int),((((List.length (copyL a0 (List.replicate (Int.toNat (IntKind.wrap .i64 ((mxI y3 y4) + (1 : Int)))) (0 : Int)))) : Nat) : Int),(0 : Int))))).2.2.2.2) fun y5 => (Option.bind (c2 y5) fun y6 => (some y6))) else none)))
def yx.f (k : Nat) a0 a1 := yx.b (zX.f k) (yx.l0 k) (yy.f k) a0 a1
noncomputable def yx.V a0 a1 := lim fun k => yx.f k a0 a1
theorem yx.v a0 a1 {y} (h : yx.b zX.V yx.V0 yy.V a0 a1 = some y) : yx.V a0 a1 = some y := Le.v (by unfold yx.f yx.b;repeat (first | with_reducible first | exact Le.const | refine Le.bind ?_ fun _ => ?_ | refine Le.cond ?_ ?_ | refine Le.elim (fun _ => ?_) fun _ => ?_ | exact Le.of rfl)) h
theorem yx.e (k : Nat) (x : Tup (sigTys yx.hd)) : fnK T0 (yx.env k) [⟨0,yx.L0 k⟩] yx.C Tryz.f154 2 80 yx.hd yx.os x = yx.f k x.1 x.2 := by kernel_rfl
def yx.fn (k : Nat) : Kn P0 G0 := ⟨154,2,80,yx.hd,1,yx.os,fun x => yx.f k x.1 x.2,contract (T := T0) (fn := Tryz.f154) hm0 hT0 (by kernel_rfl) (by kernel_rfl) (L := [⟨0,yx.L0 k⟩]) (C := yx.C) (by kernel_rfl) (by decide) rfl (by kernel_rfl) (loops_fn yx.d ⟨yx.s0 k,trivial⟩) (yx.e k),none⟩
def xl.hd : Sig := [⟨false,0,(.imm api_Int)⟩,⟨false,1,(.imm api_Int)⟩]
def xl.os : List Sig := [[⟨false,0,(.agg api_Int (.acons (.imm .bool) (.acons (.own 25 false 111 (.int .u32)) .anil)))⟩]]
def xl.C : List CutAt := []
def xl.env (k : Nat) : List (Kn P0 G0) := [yG.fn k,yx.fn k,yD.fn k,yq.fn k]
theorem xl.d : distN (loopIds (Tryz.f115.body.getD .skip) 0) = true := by kernel_rfl
def xl.b (c0 : WH → Option (Bool × LI)) (c1 : LI → LI → Option LI) (c2 : Bool → LI → Option (Bool × LI)) (c3 : LI → LI → Option (Bool ⊕ (LI × Bool))) (a0 : WH) (a1 : WH) : Option (Bool × LI) := (Option.bind (c0 a0) fun y3 => (Option.bind (c0 a1) fun y4 => (bif (y3.1 == y4.1) then (Option.bind (c1 y3.2 y4.2) fun y5 => (Option.bind (c2 y3.1 y5) fun y6 => (some (y6.1,y6.2)))) else (Option.bind (c3 y3.2 y4.2) fun y5 => (Sum.elim (fun y6 => (bif y6 then (Option.bind (c2 y3.1 ([] : LI)) fun y7 => (some (y7.1,y7.2))) else (Option.bind (c3 y4.2 y3.2) fun y7 => (Sum.elim (fun y8 => (Option.bind (c2 y4.1 ([] : LI)) fun y9 => (some (y9.1,y9.2)))) (fun y8 => (Option.bind (c2 y4.1 y8.1) fun y9 => (some (y9.1,y9.2)))) y7)))) (fun y6 => (bif y6.2 then (Option.bind (c2 y3.1 y6.1) fun y7 => (some (y7.1,y7.2))) else (Option.bind (c3 y4.2 y3.2) fun y7 => (Sum.elim (fun y8 => (Option.bind (c2 y4.1 ([] : LI)) fun y9 => (some (y9.1,y9.2)))) (fun y8 => (Option.bind (c2 y4.1 y8.1) fun y9 => (some (y9.1,y9.2)))) y7)))) y5)))))
def xl.f (k : Nat) a0 a1 := xl.b (yG.f k) (yx.f k) (yD.f k) (yq.f k) a0 a1
noncomputable def xl.V a0 a1 := lim fun k => xl.f k a0 a1
theorem xl.v a0 a1 {y} (h : xl.b yG.V yx.V yD.V yq.V a0 a1 = some y) : xl.V a0 a1 = some y := Le.v (by unfold xl.f xl.b;repeat (first | with_reducible first | exact Le.const | refine Le.bind ?_ fun _ => ?_ | refine Le.cond ?_ ?_ | refine Le.elim (fun _ => ?_) fun _ => ?_ | exact Le.of rfl)) h
theorem xl.e (k : Nat) (x : Tup (sigTys xl.hd)) : fnK T0 (xl.env k) [] xl.C Tryz.f115 2 102 xl.hd xl.os x = xl.f k x.1 x.2 := by kernel_rfl
def xl.fn (k : Nat) : Kn P0 G0 := ⟨115,2,102,xl.hd,1,xl.os,fun x => xl.f k x.1 x.2,contract (T := T0) (fn := Tryz.f115) hm0 hT0 (by kernel_rfl) (by kernel_rfl) (L := []) (C := xl.C) (by kernel_rfl) (by decide) rfl (by kernel_rfl) (loops_fn xl.d trivial) (xl.e k),none⟩
def xC.hd : Sig := [⟨false,0,(.imm api_Int)⟩,⟨false,1,(.imm (.list (.int .u32)))⟩]
def xC.os : List Sig := [[⟨false,0,(.imm api_Rat)⟩,⟨false,1,(.imm (.int .i64))⟩]]
def xC.C : List CutAt := []
def xC.env (k : Nat) : List (Kn P0 G0) := [yG.fn k,yy.fn k,yv.fn k,yr.fn k]
theorem xC.d : distN (loopIds (Tryz.f114.body.getD .skip) 0) = true := by kernel_rfl
def xC.b (c0 : WH → Option (Bool × LI)) (c1 : LI → Option LI) (c2 : LI → LI → Option LI) (c3 : LI → LI → Option (Bool ⊕ (LI × LI × Bool))) (a0 : WH) (a1 : LI) : Option (RA × Int) := (Option.bind (c0 a0) fun y3 => (Option.bind (c1 a1) fun y4 => (bif ((((List.length y4) : Nat) : Int) == (0 : Int)) then (some (((false,(([] : LI),())),(([] : LI),())),(3 : Int))) else (Option.bind (c2 y3.2 y4) fun y5 => (Option.bind (c3 y3.2 y5) fun y6 => (Sum.elim (fun y7 => (Option.bind (c3 y4 y5) fun y8 => (Sum.elim (fun y9 => (some (((y3.1,(([] : LI),())),(([] : LI),())),(0 : Int)))) (fun y9 => (bif (decide ((((List.length y9.1) : Nat) : Int) > (64 : Int))) then (some (((false,(([] : LI),())),(([] : LI),())),(2 : Int))) else (some (((y3.1,(([] : LI),())),(y9.1,())),(0 : Int))))) y8))) (fun y7 => (Option.bind (c3 y4 y5) fun y8 => (Sum.elim (fun y9 => (bif (decide ((((List.length y7.1) : Nat) : Int) > (64 : Int))) then (some (((false,(([] : LI),())),(([] : LI),())),(2 : Int))) else (some (((y3.1,(y7.1,())),(([] : LI),())),(0 : Int))))) (fun y9 => (bif (decide ((((List.length y7.1) : Nat) : Int) > (64 : Int))) then (some (((false,(([] : LI),())),(([] : LI),())),(2 : Int))) else (bif (decide ((((List.length y9.1) : Nat) : Int) > (64 : Int))) then (some (((false,(([] : LI),())),(([] : LI),())),(2 : Int))) else (some (((y3.1,(y7.1,())),(y9.1,())),(0 : Int)))))) y8))) y6))))))
def xC.f (k : Nat) a0 a1 := xC.b (yG.f k) (yy.f k) (yv.f k) (yr.f k) a0 a1
noncomputable def xC.V a0 a1 := lim fun k => xC.f k a0 a1
theorem xC.v a0 a1 {y} (h : xC.b yG.V yy.V yv.V yr.V a0 a1 = some y) : xC.V a0 a1 = some y := Le.v (by unfold xC.f xC.b;repeat (first | with_reducible first | exact Le.const | refine Le.bind ?_ fun _ => ?_ | refine Le.cond ?_ ?_ | refine Le.elim (fun _ => ?_) fun _ => ?_ | exact Le.of rfl)) h
theorem xC.e (k : Nat) (x : Tup (sigTys xC.hd)) : fnK T0 (xC.env k) [] xC.C Tryz.f114 2 96 xC.hd xC.os x = xC.f k x.1 x.2 := by kernel_rfl
def xC.fn (k : Nat) : Kn P0 G0 := ⟨114,2,96,xC.hd,2,xC.os,fun x => xC.f k x.1 x.2,contract (T := T0) (fn := Tryz.f114) hm0 hT0 (by kernel_rfl) (by kernel_rfl) (L := []) (C := xC.C) (by kernel_rfl) (by decide) rfl (by kernel_rfl) (loops_fn xC.d trivial) (xC.e k),none⟩
def xy.hd : Sig := [⟨false,0,(.imm api_Rat)⟩,⟨false,1,(.imm api_Rat)⟩]
def xy.os : List Sig := [[⟨false,0,(.agg api_Rat (.acons (.agg api_Int (.acons (.imm .bool) (.acons (.imm (.list (.int .u32))) .anil))) (.acons (.imm (.list (.int .u32))) .anil)))⟩,⟨false,1,(.imm (.int .i64))⟩]]
def xy.C : List CutAt := []
def xy.env (k : Nat) : List (Kn P0 G0) := [yB.fn k,xd.fn k,xl.fn k,zC.fn k,xC.fn k]
theorem xy.d : distN (loopIds (Tryz.f76.body.getD .skip) 0) = true := by kernel_rfl
def xy.b (c0 : RA → Option Bool) (c1 : RA → RA → Option (Bool × LI)) (c2 : WH → WH → Option (Bool × LI)) (c3 : LI → LI → Option LI) (c4 : WH → LI → Option (RA × Int)) (a0 : RA) (a1 : RA) : Option (Bool × LI × LI × Int) := (Option.bind (c0 a0) fun y3 => (bif (!y3) then (some (false,(([] : LI),(([] : LI),(1 : Int))))) else (Option.bind (c0 a1) fun y4 => (bif (!y4) then (some (false,(([] : LI),(([] : LI),(1 : Int))))) else (Option.bind (c1 a0 a1) fun y5 => (Option.bind (c1 a1 a0) fun y6 => (Option.bind (c2 (y5.1,(y5.2,())) (y6.1,(y6.2,()))) fun y7 => (Option.bind (c3 a0.2.1 a1.2.1) fun y8 => (Option.bind (c4 (y7.1,(y7.2,())) y8) fun y9 => (some (y9.1.1.1,(y9.1.1.2.1,(y9.1.2.1,y9.2)))))))))))))
def xy.f (k : Nat) a0 a1 := xy.b (yB.f k) (xd.f k) (xl.f k) (zC.f k) (xC.f k) a0 a1
noncomputable def xy.V a0 a1 := lim fun k => xy.f k a0 a1
theorem xy.v a0 a1 {y} (h : xy.b yB.V xd.V xl.V zC.V xC.V a0 a1 = some y) : xy.V a0 a1 = some y := Le.v (by unfold xy.f xy.b;repeat (first | with_reducible first | exact Le.const | refine Le.bind ?_ fun _ => ?_ | refine Le.cond ?_ ?_ | refine Le.elim (fun _ => ?_) fun _ => ?_ | exact Le.of rfl)) h
theorem xy.e (k : Nat) (x : Tup (sigTys xy.hd)) : fnK T0 (xy.env k) [] xy.C Tryz.f76 2 60 xy.hd xy.os x = xy.f k x.1 x.2 := by kernel_rfl
def xy.fn (k : Nat) : Kn P0 G0 := ⟨76,2,60,xy.hd,2,xy.os,fun x => xy.f k x.1 x.2,contract (T := T0) (fn := Tryz.f76) hm0 hT0 (by kernel_rfl) (by kernel_rfl) (L := []) (C := xy.C) (by kernel_rfl) (by decide) rfl (by kernel_rfl) (loops_fn xy.d trivial) (xy.e k),none⟩
def xI.hd : Sig := [⟨false,0,(.imm api_Rat)⟩,⟨false,1,(.imm api_Rat)⟩]
def xI.os : List Sig := [[⟨false,0,(.agg api_Rat (.acons (.agg api_Int (.acons (.imm .bool) (.acons (.imm (.list (.int .u32))) .anil))) (.acons (.imm (.list (.int .u32))) .anil)))⟩,⟨false,1,(.imm (.int .i64))⟩]]
def xI.C : List CutAt := []
def xI.env (k : Nat) : List (Kn P0 G0) := [xz.fn k,xy.fn k]
theorem xI.d : distN (loopIds (Tryz.f77.body.getD .skip) 0) = true := by kernel_rfl
def xI.b (c0 : RA → Option (Bool × LI × LI)) (c1 : RA → RA → Option (Bool × LI × LI × Int)) (a0 : RA) (a1 : RA) : Option (Bool × LI × LI × Int) := (Option.bind (c0 a1) fun y3 => (Option.bind (c1 a0 ((y3.1,(y3.2.1,())),(y3.2.2,()))) fun y4 => (some (y4.1,(y4.2.1,(y4.2.2.1,y4.2.2.2))))))
def xI.f (k : Nat) a0 a1 := xI.b (xz.f k) (xy.f k) a0 a1
noncomputable def xI.V a0 a1 := lim fun k => xI.f k a0 a1
theorem xI.v a0 a1 {y} (h : xI.b xz.V xy.V a0 a1 = some y) : xI.V a0 a1 = some y := Le.v (by unfold xI.f xI.b;repeat (first | with_reducible first | exact Le.const | refine Le.bind ?_ fun _ => ?_ | refine Le.cond ?_ ?_ | refine Le.elim (fun _ => ?_) fun _ => ?_ | exact Le.of rfl)) h
theorem xI.e (k : Nat) (x : Tup (sigTys xI.hd)) : fnK T0 (xI.env k) [] xI.C Tryz.f77 2 24 xI.hd xI.os x = xI.f k x.1 x.2 := by kernel_rfl
def xI.fn (k : Nat) : Kn P0 G0 := ⟨77,2,24,xI.hd,2,xI.os,fun x => xI.f k x.1 x.2,contract (T := T0) (fn := Tryz.f77) hm0 hT0 (by kernel_rfl) (by kernel_rfl) (L := []) (C := xI.C) (by kernel_rfl) (by decide) rfl (by kernel_rfl) (loops_fn xI.d trivial) (xI.e k),none⟩
def xD.hd : Sig := [⟨false,0,(.imm api_Rat)⟩,⟨false,1,(.imm api_Rat)⟩]
def xD.os : List Sig := [[⟨false,0,(.agg api_Rat (.acons (.agg api_Int (.acons (.imm .bool) (.acons (.imm (.list (.int .u32))) .anil))) (.acons (.imm (.list (.int .u32))) .anil)))⟩,⟨false,1,(.imm (.int .i64))⟩]]
def xD.C : List CutAt := []
def xD.env (k : Nat) : List (Kn P0 G0) := [yB.fn k,yY.fn k,zC.fn k,xC.fn k]
theorem xD.d : distN (loopIds (Tryz.f78.body.getD .skip) 0) = true := by kernel_rfl
def xD.b (c0 : RA → Option Bool) (c1 : WH → WH → Option (Bool × LI)) (c2 : LI → LI → Option LI) (c3 : WH → LI → Option (RA × Int)) (a0 : RA) (a1 : RA) : Option (Bool × LI × LI × Int) := (Option.bind (c0 a0) fun y3 => (bif (!y3) then (some (false,(([] : LI),(([] : LI),(1 : Int))))) else (Option.bind (c0 a1) fun y4 => (bif (!y4) then (some (false,(([] : LI),(([] : LI),(1 : Int))))) else (Option.bind (c1 a0.1 a1.1) fun y5 => (Option.bind (c2 a0.2.1 a1.2.1) fun y6 => (Option.bind (c3 (y5.1,(y5.2,())) y6) fun y7 => (some (y7.1.1.1,(y7.1.1.2.1,(y7.1.2.1,y7.2)))))))))))
def xD.f (k : Nat) a0 a1 := xD.b (yB.f k) (yY.f k) (zC.f k) (xC.f k) a0 a1
noncomputable def xD.V a0 a1 := lim fun k => xD.f k a0 a1
theorem xD.v a0 a1 {y} (h : xD.b yB.V yY.V zC.V xC.V a0 a1 = some y) : xD.V a0 a1 = some y := Le.v (by unfold xD.f xD.b;repeat (first | with_reducible first | exact Le.const | refine Le.bind ?_ fun _ => ?_ | refine Le.cond ?_ ?_ | refine Le.elim (fun _ => ?_) fun _ => ?_ | exact Le.of rfl)) h
theorem xD.e (k : Nat) (x : Tup (sigTys xD.hd)) : fnK T0 (xD.env k) [] xD.C Tryz.f78 2 56 xD.hd xD.os x = xD.f k x.1 x.2 := by kernel_rfl
def xD.fn (k : Nat) : Kn P0 G0 := ⟨78,2,56,xD.hd,2,xD.os,fun x => xD.f k x.1 x.2,contract (T := T0) (fn := Tryz.f78) hm0 hT0 (by kernel_rfl) (by kernel_rfl) (L := []) (C := xD.C) (by kernel_rfl) (by decide) rfl (by kernel_rfl) (loops_fn xD.d trivial) (xD.e k),none⟩
def xG.hd : Sig := [⟨false,0,(.imm api_Rat)⟩,⟨false,1,(.imm api_Rat)⟩]
def xG.os : List Sig := [[⟨false,0,(.agg api_Rat (.acons (.agg api_Int (.acons (.imm .bool) (.acons (.imm (.list (.int .u32))) .anil))) (.acons (.imm (.list (.int .u32))) .anil)))⟩,⟨false,1,(.imm (.int .i64))⟩]]
def xG.C : List CutAt := []
def xG.env (k : Nat) : List (Kn P0 G0) := [yB.fn k,xd.fn k,zC.fn k,xC.fn k]
theorem xG.d : distN (loopIds (Tryz.f79.body.getD .skip) 0) = true := by kernel_rfl
def xG.b (c0 : RA → Option Bool) (c1 : RA → RA → Option (Bool × LI)) (c2 : LI → LI → Option LI) (c3 : WH → LI → Option (RA × Int)) (a0 : RA) (a1 : RA) : Option (Bool × LI × LI × Int) := (Option.bind (c0 a0) fun y3 => (bif (!y3) then (some (false,(([] : LI),(([] : LI),(1 : Int))))) else (Option.bind (c0 a1) fun y4 => (bif (!y4) then (some (false,(([] : LI),(([] : LI),(1 : Int))))) else (Option.bind (c1 a0 a1) fun y5 => (Option.bind (c2 a0.2.1 a1.1.2.1) fun y6 => (Option.bind (c3 ((!(y5.1 == a1.1.1)),(y5.2,())) y6) fun y7 => (some (y7.1.1.1,(y7.1.1.2.1,(y7.1.2.1,y7.2)))))))))))
def xG.f (k : Nat) a0 a1 := xG.b (yB.f k) (xd.f k) (zC.f k) (xC.f k) a0 a1
noncomputable def xG.V a0 a1 := lim fun k => xG.f k a0 a1
theorem xG.v a0 a1 {y} (h : xG.b yB.V xd.V zC.V xC.V a0 a1 = some y) : xG.V a0 a1 = some y := Le.v (by unfold xG.f xG.b;repeat (first | with_reducible first | exact Le.const | refine Le.bind ?_ fun _ => ?_ | refine Le.cond ?_ ?_ | refine Le.elim (fun _ => ?_) fun _ => ?_ | exact Le.of rfl)) h
theorem xG.e (k : Nat) (x : Tup (sigTys xG.hd)) : fnK T0 (xG.env k) [] xG.C Tryz.f79 2 72 xG.hd xG.os x = xG.f k x.1 x.2 := by kernel_rfl
def xG.fn (k : Nat) : Kn P0 G0 := ⟨79,2,72,xG.hd,2,xG.os,fun x => xG.f k x.1 x.2,contract (T := T0) (fn := Tryz.f79) hm0 hT0 (by kernel_rfl) (by kernel_rfl) (L := []) (C := xG.C) (by kernel_rfl) (by decide) rfl (by kernel_rfl) (loops_fn xG.d trivial) (xG.e k),none⟩
def zt.hd : Sig := [⟨true,94,(.agg simple_maker (.acons (.own 92 false 42 api_Term) (.acons (.mp 93 simple_face (.int .i64)) .anil)))⟩,⟨false,0,(.ptr 94 [] simple_maker)⟩,⟨false,1,(.imm (.int .i64))⟩,⟨false,2,(.imm (.int .i64))⟩,⟨false,3,(.fn 76)⟩]
def zt.os : List Sig := [[⟨true,94,(.agg simple_maker (.acons (.own 92 false 42 api_Term) (.acons (.mp 93 simple_face (.int .i64)) .anil)))⟩,⟨false,0,(.imm (.int .i64))⟩,⟨false,1,(.imm .bool)⟩]]
def zt.C : List CutAt := []
def zt.env (k : Nat) : List (Kn P0 G0) := [zG.fn,zm.fn k,xy.fn k]
theorem zt.d : distN (loopIds (Tryz.f97.body.getD .skip) 0) = true := by kernel_rfl
def zt.b (c0 : RA → RA → Option (Bool × LI × LI × Int)) (c1 : CO → MP → RA → Option (CO × MP × Int)) (a0 : CO) (a1 : MP) (a2 : Int) (a3 : Int) : Option (CO × MP × Int × Bool) := (Option.bind (zG.f a0 (a1,a2).1 (a1,a2).2) fun y5 => (Option.bind (zG.f y5.1 (y5.2.1,a3).1 (y5.2.1,a3).2) fun y6 => (bif (!y5.2.2.2) then (some (y6.1,(y6.2.1,((0 : Int),false)))) else (bif (!y6.2.2.2) then (some (y6.1,(y6.2.1,((0 : Int),false)))) else (Option.bind (c0 y5.2.2.1 y6.2.2.1) fun y7 => (bif (y7.2.2.2 != (0 : Int)) then (some (y6.1,(y6.2.1,((0 : Int),false)))) else (Option.bind (c1 y6.1 (y6.2.1,((y7.1,(y7.2.1,())),(y7.2.2.1,()))).1 (y6.2.1,((y7.1,(y7.2.1,())),(y7.2.2.1,()))).2) fun y8 => (some (y8.1,(y8.2.1,(y8.2.2,true)))))))))))
def zt.f (k : Nat) a0 a1 a2 a3 := zt.b (xy.f k) (zm.f k) a0 a1 a2 a3
noncomputable def zt.V a0 a1 a2 a3 := lim fun k => zt.f k a0 a1 a2 a3
theorem zt.v a0 a1 a2 a3 {y} (h : zt.b xy.V zm.V a0 a1 a2 a3 = some y) : zt.V a0 a1 a2 a3 = some y := Le.v (by unfold zt.f zt.b;repeat (first | with_reducible first | exact Le.const | refine Le.bind ?_ fun _ => ?_ | refine Le.cond ?_ ?_ | refine Le.elim (fun _ => ?_) fun _ => ?_ | exact Le.of rfl)) h
theorem zt.e (k : Nat) (x : Tup (sigTys zt.hd)) : fnK T0 (zt.env k) [] zt.C Tryz.f97 4 95 zt.hd zt.os x = zt.f k x.1 x.2.1 x.2.2.1 x.2.2.2 := by kernel_rfl
def zt.fn (k : Nat) : Kn P0 G0 := ⟨97,4,95,zt.hd,2,zt.os,fun x => zt.f k x.1 x.2.1 x.2.2.1 x.2.2.2,contract (T := T0) (fn := Tryz.f97) hm0 hT0 (by kernel_rfl) (by kernel_rfl) (L := []) (C := zt.C) (by kernel_rfl) (by decide) rfl (by kernel_rfl) (loops_fn zt.d trivial) (zt.e k),none⟩
def zy.hd : Sig := [⟨true,94,(.agg simple_maker (.acons (.own 92 false 42 api_Term) (.acons (.mp 93 simple_face (.int .i64)) .anil)))⟩,⟨false,0,(.ptr 94 [] simple_maker)⟩,⟨false,1,(.imm (.int .i64))⟩,⟨false,2,(.imm (.int .i64))⟩,⟨false,3,(.fn 77)⟩]
def zy.os : List Sig := [[⟨true,94,(.agg simple_maker (.acons (.own 92 false 42 api_Term) (.acons (.mp 93 simple_face (.int .i64)) .anil)))⟩,⟨false,0,(.imm (.int .i64))⟩,⟨false,1,(.imm .bool)⟩]]
def zy.C : List CutAt := []
def zy.env (k : Nat) : List (Kn P0 G0) := [zG.fn,zm.fn k,xI.fn k]
theorem zy.d : distN (loopIds (Tryz.f97.body.getD .skip) 0) = true := by kernel_rfl
def zy.b (c0 : RA → RA → Option (Bool × LI × LI × Int)) (c1 : CO → MP → RA → Option (CO × MP × Int)) (a0 : CO) (a1 : MP) (a2 : Int) (a3 : Int) : Option (CO × MP × Int × Bool) := (Option.bind (zG.f a0 (a1,a2).1 (a1,a2).2) fun y5 => (Option.bind (zG.f y5.1 (y5.2.1,a3).1 (y5.2.1,a3).2) fun y6 => (bif (!y5.2.2.2) then (some (y6.1,(y6.2.1,((0 : Int),false)))) else (bif (!y6.2.2.2) then (some (y6.1,(y6.2.1,((0 : Int),false)))) else (Option.bind (c0 y5.2.2.1 y6.2.2.1) fun y7 => (bif (y7.2.2.2 != (0 : Int)) then (some (y6.1,(y6.2.1,((0 : Int),false)))) else (Option.bind (c1 y6.1 (y6.2.1,((y7.1,(y7.2.1,())),(y7.2.2.1,()))).1 (y6.2.1,((y7.1,(y7.2.1,())),(y7.2.2.1,()))).2) fun y8 => (some (y8.1,(y8.2.1,(y8.2.2,true)))))))))))
def zy.f (k : Nat) a0 a1 a2 a3 := zy.b (xI.f k) (zm.f k) a0 a1 a2 a3
noncomputable def zy.V a0 a1 a2 a3 := lim fun k => zy.f k a0 a1 a2 a3
theorem zy.v a0 a1 a2 a3 {y} (h : zy.b xI.V zm.V a0 a1 a2 a3 = some y) : zy.V a0 a1 a2 a3 = some y := Le.v (by unfold zy.f zy.b;repeat (first | with_reducible first | exact Le.const | refine Le.bind ?_ fun _ => ?_ | refine Le.cond ?_ ?_ | refine Le.elim (fun _ => ?_) fun _ => ?_ | exact Le.of rfl)) h
theorem zy.e (k : Nat) (x : Tup (sigTys zy.hd)) : fnK T0 (zy.env k) [] zy.C Tryz.f97 4 95 zy.hd zy.os x = zy.f k x.1 x.2.1 x.2.2.1 x.2.2.2 := by kernel_rfl
def zy.fn (k : Nat) : Kn P0 G0 := ⟨97,4,95,zy.hd,2,zy.os,fun x => zy.f k x.1 x.2.1 x.2.2.1 x.2.2.2,contract (T := T0) (fn := Tryz.f97) hm0 hT0 (by kernel_rfl) (by kernel_rfl) (L := []) (C := zy.C) (by kernel_rfl) (by decide) rfl (by kernel_rfl) (loops_fn zy.d trivial) (zy.e k),none⟩
def zv.hd : Sig := [⟨true,94,(.agg simple_maker (.acons (.own 92 false 42 api_Term) (.acons (.mp 93 simple_face (.int .i64)) .anil)))⟩,⟨false,0,(.ptr 94 [] simple_maker)⟩,⟨false,1,(.imm (.int .i64))⟩,⟨false,2,(.imm (.int .i64))⟩,⟨false,3,(.fn 78)⟩]
def zv.os : List Sig := [[⟨true,94,(.agg simple_maker (.acons (.own 92 false 42 api_Term) (.acons (.mp 93 simple_face (.int .i64)) .anil)))⟩,⟨false,0,(.imm (.int .i64))⟩,⟨false,1,(.imm .bool)⟩]]
def zv.C : List CutAt := []
def zv.env (k : Nat) : List (Kn P0 G0) := [zG.fn,zm.fn k,xD.fn k]
theorem zv.d : distN (loopIds (Tryz.f97.body.getD .skip) 0) = true := by kernel_rfl
def zv.b (c0 : RA → RA → Option (Bool × LI × LI × Int)) (c1 : CO → MP → RA → Option (CO × MP × Int)) (a0 : CO) (a1 : MP) (a2 : Int) (a3 : Int) : Option (CO × MP × Int × Bool) := (Option.bind (zG.f a0 (a1,a2).1 (a1,a2).2) fun y5 => (Option.bind (zG.f y5.1 (y5.2.1,a3).1 (y5.2.1,a3).2) fun y6 => (bif (!y5.2.2.2) then (some (y6.1,(y6.2.1,((0 : Int),false)))) else (bif (!y6.2.2.2) then (some (y6.1,(y6.2.1,((0 : Int),false)))) else (Option.bind (c0 y5.2.2.1 y6.2.2.1) fun y7 => (bif (y7.2.2.2 != (0 : Int)) then (some (y6.1,(y6.2.1,((0 : Int),false)))) else (Option.bind (c1 y6.1 (y6.2.1,((y7.1,(y7.2.1,())),(y7.2.2.1,()))).1 (y6.2.1,((y7.1,(y7.2.1,())),(y7.2.2.1,()))).2) fun y8 => (some (y8.1,(y8.2.1,(y8.2.2,true)))))))))))
def zv.f (k : Nat) a0 a1 a2 a3 := zv.b (xD.f k) (zm.f k) a0 a1 a2 a3
noncomputable def zv.V a0 a1 a2 a3 := lim fun k => zv.f k a0 a1 a2 a3
theorem zv.v a0 a1 a2 a3 {y} (h : zv.b xD.V zm.V a0 a1 a2 a3 = some y) : zv.V a0 a1 a2 a3 = some y := Le.v (by unfold zv.f zv.b;repeat (first | with_reducible first | exact Le.const | refine Le.bind ?_ fun _ => ?_ | refine Le.cond ?_ ?_ | refine Le.elim (fun _ => ?_) fun _ => ?_ | exact Le.of rfl)) h
theorem zv.e (k : Nat) (x : Tup (sigTys zv.hd)) : fnK T0 (zv.env k) [] zv.C Tryz.f97 4 95 zv.hd zv.os x = zv.f k x.1 x.2.1 x.2.2.1 x.2.2.2 := by kernel_rfl
def zv.fn (k : Nat) : Kn P0 G0 := ⟨97,4,95,zv.hd,2,zv.os,fun x => zv.f k x.1 x.2.1 x.2.2.1 x.2.2.2,contract (T := T0) (fn := Tryz.f97) hm0 hT0 (by kernel_rfl) (by kernel_rfl) (L := []) (C := zv.C) (by kernel_rfl) (by decide) rfl (by kernel_rfl) (loops_fn zv.d trivial) (zv.e k),none⟩
def zz.hd : Sig := [⟨true,94,(.agg simple_maker (.acons (.own 92 false 42 api_Term) (.acons (.mp 93 simple_face (.int .i64)) .anil)))⟩,⟨false,0,(.ptr 94 [] simple_maker)⟩,⟨false,1,(.imm (.int .i64))⟩,⟨false,2,(.imm (.int .i64))⟩,⟨false,3,(.fn 79)⟩]
def zz.os : List Sig := [[⟨true,94,(.agg simple_maker (.acons (.own 92 false 42 api_Term) (.acons (.mp 93 simple_face (.int .i64)) .anil)))⟩,⟨false,0,(.imm (.int .i64))⟩,⟨false,1,(.imm .bool)⟩]]
def zz.C : List CutAt := []
def zz.env (k : Nat) : List (Kn P0 G0) := [zG.fn,zm.fn k,xG.fn k]
theorem zz.d : distN (loopIds (Tryz.f97.body.getD .skip) 0) = true := by kernel_rfl
def zz.b (c0 : RA → RA → Option (Bool × LI × LI × Int)) (c1 : CO → MP → RA → Option (CO × MP × Int)) (a0 : CO) (a1 : MP) (a2 : Int) (a3 : Int) : Option (CO × MP × Int × Bool) := (Option.bind (zG.f a0 (a1,a2).1 (a1,a2).2) fun y5 => (Option.bind (zG.f y5.1 (y5.2.1,a3).1 (y5.2.1,a3).2) fun y6 => (bif (!y5.2.2.2) then (some (y6.1,(y6.2.1,((0 : Int),false)))) else (bif (!y6.2.2.2) then (some (y6.1,(y6.2.1,((0 : Int),false)))) else (Option.bind (c0 y5.2.2.1 y6.2.2.1) fun y7 => (bif (y7.2.2.2 != (0 : Int)) then (some (y6.1,(y6.2.1,((0 : Int),false)))) else (Option.bind (c1 y6.1 (y6.2.1,((y7.1,(y7.2.1,())),(y7.2.2.1,()))).1 (y6.2.1,((y7.1,(y7.2.1,())),(y7.2.2.1,()))).2) fun y8 => (some (y8.1,(y8.2.1,(y8.2.2,true)))))))))))
def zz.f (k : Nat) a0 a1 a2 a3 := zz.b (xG.f k) (zm.f k) a0 a1 a2 a3
noncomputable def zz.V a0 a1 a2 a3 := lim fun k => zz.f k a0 a1 a2 a3
theorem zz.v a0 a1 a2 a3 {y} (h : zz.b xG.V zm.V a0 a1 a2 a3 = some y) : zz.V a0 a1 a2 a3 = some y := Le.v (by unfold zz.f zz.b;repeat (first | with_reducible first | exact Le.const | refine Le.bind ?_ fun _ => ?_ | refine Le.cond ?_ ?_ | refine Le.elim (fun _ => ?_) fun _ => ?_ | exact Le.of rfl)) h
theorem zz.e (k : Nat) (x : Tup (sigTys zz.hd)) : fnK T0 (zz.env k) [] zz.C Tryz.f97 4 95 zz.hd zz.os x = zz.f k x.1 x.2.1 x.2.2.1 x.2.2.2 := by kernel_rfl
def zz.fn (k : Nat) : Kn P0 G0 := ⟨97,4,95,zz.hd,2,zz.os,fun x => zz.f k x.1 x.2.1 x.2.2.1 x.2.2.2,contract (T := T0) (fn := Tryz.f97) hm0 hT0 (by kernel_rfl) (by kernel_rfl) (L := []) (C := zz.C) (by kernel_rfl) (by decide) rfl (by kernel_rfl) (loops_fn zz.d trivial) (zz.e k),none⟩
def xL.hd : Sig := [⟨false,0,(.imm (.int .i64))⟩]
def xL.os : List Sig := [[⟨false,0,(.agg api_Int (.acons (.imm .bool) (.acons (.own 9 false 111 (.int .u32)) .anil)))⟩]]
def xL.C : List CutAt := []
def xL.env (k : Nat) : List (Kn P0 G0) := [xB.fn k,yD.fn k]
theorem xL.d : distN (loopIds (Tryz.f127.body.getD .skip) 0) = true := by kernel_rfl
def xL.b (c0 : Int → Option LI) (c1 : Bool → LI → Option (Bool × LI)) (a0 : Int) : Option (Bool × LI) := (bif (decide (a0 < (0 : Int))) then (Option.bind (c0 (IntKind.wrap .u64 ((0 : Int) - (IntKind.wrap .u64 a0)))) fun y2 => (Option.bind (c1 true y2) fun y3 => (some (y3.1,y3.2)))) else (Option.bind (c0 (IntKind.wrap .u64 a0)) fun y2 => (Option.bind (c1 false y2) fun y3 => (some (y3.1,y3.2)))))
def xL.f (k : Nat) a0 := xL.b (xB.f k) (yD.f k) a0
noncomputable def xL.V a0 := lim fun k => xL.f k a0
theorem xL.v a0 {y} (h : xL.b xB.V yD.V a0 = some y) : xL.V a0 = some y := Le.v (by unfold xL.f xL.b;repeat (first | with_reducible first | exact Le.const | refine Le.bind ?_ fun _ => ?_ | refine Le.cond ?_ ?_ | refine Le.elim (fun _ => ?_) fun _ => ?_ | exact Le.of rfl)) h
theorem xL.e (k : Nat) (x : Tup (sigTys xL.hd)) : fnK T0 (xL.env k) [] xL.C Tryz.f127 1 28 xL.hd xL.os x = xL.f k x := by kernel_rfl
def xL.fn (k : Nat) : Kn P0 G0 := ⟨127,1,28,xL.hd,1,xL.os,fun x => xL.f k x,contract (T := T0) (fn := Tryz.f127) hm0 hT0 (by kernel_rfl) (by kernel_rfl) (L := []) (C := xL.C) (by kernel_rfl) (by decide) rfl (by kernel_rfl) (loops_fn xL.d trivial) (xL.e k),none⟩
def yF.hd : Sig := [⟨false,0,(.imm (.int .i64))⟩]
def yF.os : List Sig := [[⟨false,0,(.agg api_Rat (.acons (.agg api_Int (.acons (.imm .bool) (.acons (.own 4 false 111 (.int .u32)) .anil))) (.acons (.own 5 false 111 (.int .u32)) .anil)))⟩]]
def yF.C : List CutAt := []
def yF.env (k : Nat) : List (Kn P0 G0) := [xL.fn k,xB.fn k]
theorem yF.d : distN (loopIds (Tryz.f90.body.getD .skip) 0) = true := by kernel_rfl
def yF.b (c0 : Int → Option (Bool × LI)) (c1 : Int → Option LI) (a0 : Int) : Option (Bool × LI × LI) := (Option.bind (c0 a0) fun y2 => (Option.bind (c1 (1 : Int)) fun y3 => (some (y2.1,(y2.2,y3)))))
def yF.f (k : Nat) a0 := yF.b (xL.f k) (xB.f k) a0
noncomputable def yF.V a0 := lim fun k => yF.f k a0
theorem yF.v a0 {y} (h : yF.b xL.V xB.V a0 = some y) : yF.V a0 = some y := Le.v (by unfold yF.f yF.b;repeat (first | with_reducible first | exact Le.const | refine Le.bind ?_ fun _ => ?_ | refine Le.cond ?_ ?_ | refine Le.elim (fun _ => ?_) fun _ => ?_ | exact Le.of rfl)) h
theorem yF.e (k : Nat) (x : Tup (sigTys yF.hd)) : fnK T0 (yF.env k) [] yF.C Tryz.f90 1 14 yF.hd yF.os x = yF.f k x := by kernel_rfl
def yF.fn (k : Nat) : Kn P0 G0 := ⟨90,1,14,yF.hd,1,yF.os,fun x => yF.f k x,contract (T := T0) (fn := Tryz.f90) hm0 hT0 (by kernel_rfl) (by kernel_rfl) (L := []) (C := yF.C) (by kernel_rfl) (by decide) rfl (by kernel_rfl) (loops_fn yF.d trivial) (yF.e k),none⟩
def zc.hd : Sig := [⟨false,0,(.imm (.list (.int .u32)))⟩,⟨false,1,(.imm (.list (.int .u32)))⟩]
def zc.os : List Sig := [[⟨false,0,(.imm .bool)⟩]]
def zc.h0 : Sig := [⟨false,0,(.imm (.list (.int .u32)))⟩,⟨false,1,(.imm (.list (.int .u32)))⟩,⟨false,12,(.imm (.int .i64))⟩,⟨false,13,(.imm (.int .i64))⟩]
def zc.o0 : Outs := [((.exit 0),[]),(.ret,[⟨false,4,(.imm .bool)⟩])]
def zc.C : List CutAt := []
def zc.env (k : Nat) : List (Kn P0 G0) := []
theorem zc.d : distN (loopIds (Tryz.f163.body.getD .skip) 0) = true := by kernel_rfl
def zc.b0 (c0 : LI → LI → Int → Int → Option ((Unit) ⊕ Bool)) (x0 : LI) (x1 : LI) (x2 : Int) (x3 : Int) : Option ((Unit) ⊕ Bool) := (bif (decide (x3 < x2)) then (bif (decide (((0 : Int) ≤ x3) ∧ (x3 < (((List.length x0) : Nat) : Int)))) then (bif (decide (((0 : Int) ≤ x3) ∧ (x3 < (((List.length x1) : Nat) : Int)))) then (bif ((rdL (0 : Int) x0 x3) != (rdL (0 : Int) x1 x3)) then (some (Sum.inr false)) else (c0 x0 x1 x2 (IntKind.wrap .i64 (x3 + (1 : Int))))) else none) else none) else (some (Sum.inl ())))
def zc.l0 : Nat → LI → LI → Int → Int → Option ((Unit) ⊕ Bool)
 | 0,_,_,_,_ => none
 | k + 1,x0,x1,x2,x3 => zc.b0 (zc.l0 k) x0 x1 x2 x3
noncomputable def zc.V0 x0 x1 x2 x3 := lim fun k => zc.l0 k x0 x1 x2 x3
theorem zc.v0 x0 x1 x2 x3 {y} (h : zc.b0 zc.V0 x0 x1 x2 x3 = some y) : zc.V0 x0 x1 x2 x3 = some y := Le.v (.succ (by unfold zc.l0 zc.b0;repeat (first | with_reducible first | exact Le.const | refine Le.bind ?_ fun _ => ?_ | refine Le.cond ?_ ?_ | refine Le.elim (fun _ => ?_) fun _ => ?_ | exact Le.of rfl))) h
def zc.L0 (k : Nat) : LFn := ⟨zc.h0,zc.o0,fun x => zc.l0 k x.1 x.2.1 x.2.2.1 x.2.2.2⟩
theorem zc.r0 (k : Nat) (x : Tup (sigTys zc.h0)) : roundK T0 (zc.env k) 26 52 [] zc.C (loopOf Tryz.f163 0) 0 zc.h0 zc.o0 (zc.L0 k).f x = (zc.L0 (k + 1)).f x := by kernel_rfl
theorem zc.s0 (k : Nat) : LoopSound P0 G0 26 52 (sigPins zc.hd) (zc.L0 k) (loopOf Tryz.f163 0) := loop_rounds (T := T0) hm0 hT0 (env := fun k => (zc.env k)) (nh := 52) (pn := sigPins zc.hd) (L := fun k => []) (C := zc.C) (by kernel_rfl) (hd := zc.h0) (os := zc.o0) (by kernel_rfl) (by kernel_rfl) (by kernel_rfl) (g := fun k => (zc.L0 k).f) (fun k => loops_in zc.d trivial) (fun _ => rfl) (fun k x => zc.r0 k x) k
def zc.b (c0 : LI → LI → Int → Int → Option ((Unit) ⊕ Bool)) (a0 : LI) (a1 : LI) : Option Bool := (bif ((((List.length a0) : Nat) : Int) != (((List.length a1) : Nat) : Int)) then (some false) else (Option.bind (c0 a0 (a1,((((List.length a0) : Nat) : Int),(0 : Int))).1 (a1,((((List.length a0) : Nat) : Int),(0 : Int))).2.1 (a1,((((List.length a0) : Nat) : Int),(0 : Int))).2.2) fun y3 => (Sum.elim (fun y4 => (some true)) (fun y4 => (some y4)) y3)))
def zc.f (k : Nat) a0 a1 := zc.b (zc.l0 k) a0 a1
noncomputable def zc.V a0 a1 := lim fun k => zc.f k a0 a1
theorem zc.v a0 a1 {y} (h : zc.b zc.V0 a0 a1 = some y) : zc.V a0 a1 = some y := Le.v (by unfold zc.f zc.b;repeat (first | with_reducible first | exact Le.const | refine Le.bind ?_ fun _ => ?_ | refine Le.cond ?_ ?_ | refine Le.elim (fun _ => ?_) fun _ => ?_ | exact Le.of rfl)) h
theorem zc.e (k : Nat) (x : Tup (sigTys zc.hd)) : fnK T0 (zc.env k) [⟨0,zc.L0 k⟩] zc.C Tryz.f163 2 52 zc.hd zc.os x = zc.f k x.1 x.2 := by kernel_rfl
def zc.fn (k : Nat) : Kn P0 G0 := ⟨163,2,52,zc.hd,1,zc.os,fun x => zc.f k x.1 x.2,contract (T := T0) (fn := Tryz.f163) hm0 hT0 (by kernel_rfl) (by kernel_rfl) (L := [⟨0,zc.L0 k⟩]) (C := zc.C) (by kernel_rfl) (by decide) rfl (by kernel_rfl) (loops_fn zc.d ⟨zc.s0 k,trivial⟩) (zc.e k),none⟩
def xr.hd : Sig := [⟨false,0,(.imm api_Rat)⟩,⟨false,1,(.imm api_Rat)⟩]
def xr.os : List Sig := [[⟨false,0,(.imm .bool)⟩]]
def xr.C : List CutAt := [⟨1000001,[(.normal,[⟨false,4,(.imm .bool)⟩])]⟩]
def xr.env (k : Nat) : List (Kn P0 G0) := [yB.fn k,zc.fn k]
theorem xr.d : distN (loopIds (Tryz.f134.body.getD .skip) 0) = true := by kernel_rfl
def xr.b (c0 : RA → Option Bool) (c1 : LI → LI → Option Bool) (a0 : RA) (a1 : RA) : Option Bool := (Option.bind (Option.bind (c0 a0) fun y3 => (bif y3 then (Option.bind (c0 a1) fun y4 => (bif y4 then (bif (a0.1.1 == a1.1.1) then (Option.bind (c1 a0.1.2.1 a1.1.2.1) fun y5 => (bif y5 then (Option.bind (c1 a0.2.1 a1.2.1) fun y6 => (some y6)) else (some false))) else (some false)) else (some false))) else (some false))) fun y3 => (some y3))
def xr.f (k : Nat) a0 a1 := xr.b (yB.f k) (zc.f k) a0 a1
noncomputable def xr.V a0 a1 := lim fun k => xr.f k a0 a1
theorem xr.v a0 a1 {y} (h : xr.b yB.V zc.V a0 a1 = some y) : xr.V a0 a1 = some y := Le.v (by unfold xr.f xr.b;repeat (first | with_reducible first | exact Le.const | refine Le.bind ?_ fun _ => ?_ | refine Le.cond ?_ ?_ | refine Le.elim (fun _ => ?_) fun _ => ?_ | exact Le.of rfl)) h
theorem xr.e (k : Nat) (x : Tup (sigTys xr.hd)) : fnK T0 (xr.env k) [] xr.C Tryz.f134 2 72 xr.hd xr.os x = xr.f k x.1 x.2 := by kernel_rfl
def xr.fn (k : Nat) : Kn P0 G0 := ⟨134,2,72,xr.hd,1,xr.os,fun x => xr.f k x.1 x.2,contract (T := T0) (fn := Tryz.f134) hm0 hT0 (by kernel_rfl) (by kernel_rfl) (L := []) (C := xr.C) (by kernel_rfl) (by decide) rfl (by kernel_rfl) (loops_fn xr.d trivial) (xr.e k),none⟩
def zT.hd : Sig := [⟨true,46,(.agg simple_maker (.acons (.own 44 false 42 api_Term) (.acons (.mp 45 simple_face (.int .i64)) .anil)))⟩,⟨false,0,(.ptr 46 [] simple_maker)⟩,⟨false,1,(.imm (.int .i64))⟩,⟨false,2,(.imm (.int .i64))⟩]
def zT.os : List Sig := [[⟨true,46,(.agg simple_maker (.acons (.own 44 false 42 api_Term) (.acons (.mp 45 simple_face (.int .i64)) .anil)))⟩,⟨false,0,(.imm .bool)⟩]]
def zT.C : List CutAt := []
def zT.env (k : Nat) : List (Kn P0 G0) := [zG.fn,yF.fn k,xr.fn k]
theorem zT.d : distN (loopIds (Tryz.f98.body.getD .skip) 0) = true := by kernel_rfl
def zT.b (c0 : Int → Option (Bool × LI × LI)) (c1 : RA → RA → Option Bool) (a0 : CO) (a1 : MP) (a2 : Int) (a3 : Int) : Option (CO × MP × Bool) := (Option.bind (zG.f a0 (a1,a2).1 (a1,a2).2) fun y5 => (bif y5.2.2.2 then (Option.bind (c0 a3) fun y6 => (Option.bind (c1 y5.2.2.1 ((y6.1,(y6.2.1,())),(y6.2.2,()))) fun y7 => (some (y5.1,(y5.2.1,y7))))) else (some (y5.1,(y5.2.1,false)))))
def zT.f (k : Nat) a0 a1 a2 a3 := zT.b (yF.f k) (xr.f k) a0 a1 a2 a3
noncomputable def zT.V a0 a1 a2 a3 := lim fun k => zT.f k a0 a1 a2 a3
theorem zT.v a0 a1 a2 a3 {y} (h : zT.b yF.V xr.V a0 a1 a2 a3 = some y) : zT.V a0 a1 a2 a3 = some y := Le.v (by unfold zT.f zT.b;repeat (first | with_reducible first | exact Le.const | refine Le.bind ?_ fun _ => ?_ | refine Le.cond ?_ ?_ | refine Le.elim (fun _ => ?_) fun _ => ?_ | exact Le.of rfl)) h
theorem zT.e (k : Nat) (x : Tup (sigTys zT.hd)) : fnK T0 (zT.env k) [] zT.C Tryz.f98 3 47 zT.hd zT.os x = zT.f k x.1 x.2.1 x.2.2.1 x.2.2.2 := by kernel_rfl
def zT.fn (k : Nat) : Kn P0 G0 := ⟨98,3,47,zT.hd,1,zT.os,fun x => zT.f k x.1 x.2.1 x.2.2.1 x.2.2.2,contract (T := T0) (fn := Tryz.f98) hm0 hT0 (by kernel_rfl) (by kernel_rfl) (L := []) (C := zT.C) (by kernel_rfl) (by decide) rfl (by kernel_rfl) (loops_fn zT.d trivial) (zT.e k),none⟩
def zZ.hd : Sig := [⟨true,78,(.agg simple_maker (.acons (.own 76 false 42 api_Term) (.acons (.mp 77 simple_face (.int .i64)) .anil)))⟩,⟨false,0,(.ptr 78 [] simple_maker)⟩,⟨false,1,(.imm (.int .i64))⟩]
def zZ.os : List Sig := [[⟨true,78,(.agg simple_maker (.acons (.own 76 false 42 api_Term) (.acons (.mp 77 simple_face (.int .i64)) .anil)))⟩,⟨false,0,(.agg api_Rat (.acons (.agg api_Int (.acons (.imm .bool) (.acons (.imm (.list (.int .u32))) .anil))) (.acons (.imm (.list (.int .u32))) .anil)))⟩,⟨false,1,(.imm (.int .i64))⟩]]
def zZ.C : List CutAt := [⟨8,[(.normal,[⟨true,4,(.agg api_Rat (.acons (.agg api_Int (.acons (.imm .bool) (.acons .nilS .anil))) (.acons .nilS .anil)))⟩,⟨true,78,(.agg simple_maker (.acons (.own 76 false 42 api_Term) (.acons (.mp 77 simple_face (.int .i64)) .anil)))⟩,⟨false,1,(.imm (.int .i64))⟩,⟨false,4,(.ptr 4 [] api_Rat)⟩]),(.ret,[⟨true,4,(.imm api_Rat)⟩,⟨true,78,(.agg simple_maker (.acons (.own 76 false 42 api_Term) (.acons (.mp 77 simple_face (.int .i64)) .anil)))⟩,⟨false,4,(.ptr 4 [] api_Rat)⟩,⟨false,5,(.imm (.int .i64))⟩])]⟩]
def zZ.env (k : Nat) : List (Kn P0 G0) := [yF.fn k,zG.fn]
theorem zZ.d : distN (loopIds (Tryz.f135.body.getD .skip) 0) = true := by kernel_rfl
def zZ.b (c0 : Int → Option (Bool × LI × LI)) (a0 : CO) (a1 : MP) (a2 : Int) : Option (CO × MP × Bool × LI × LI × Int) := (bif (decide (((0 : Int) ≤ a2) ∧ (a2 < (((List.length a0) : Nat) : Int)))) then (bif ((rdL (Ty.zero api_Term) a0 a2).1 == (7 : Int)) then (Option.bind (c0 (-(1 : Int))) fun y4 => (some (a0,(a1,(y4.1,(y4.2.1,(y4.2.2,(rdL (Ty.zero api_Term) a0 a2).2.1))))))) else (Option.bind (bif ((rdL (Ty.zero api_Term) a0 a2).1 == (5 : Int)) then (Option.bind (zG.f a0 (a1,(rdL (Ty.zero api_Term) a0 a2).2.1).1 (a1,(rdL (Ty.zero api_Term) a0 a2).2.1).2) fun y4 => (bif y4.2.2.2 then (some (Sum.inr (y4.2.2.1,(y4.1,(y4.2.1,(rdL (Ty.zero api_Term) a0 a2).2.2.1))))) else (some (Sum.inl (false,(y4.1,(y4.2.1,a2))))))) else (some (Sum.inl (false,(a0,(a1,a2)))))) fun y4 => (Sum.elim (fun y5 => (Option.bind (c0 (1 : Int)) fun y6 => (some (y5.2.1,(y5.2.2.1,(y6.1,(y6.2.1,(y6.2.2,y5.2.2.2)))))))) (fun y5 => (some (y5.2.1,(y5.2.2.1,(y5.1.1.1,(y5.1.1.2.1,(y5.1.2.1,y5.2.2.2))))))) y4))) else none)
def zZ.f (k : Nat) a0 a1 a2 := zZ.b (yF.f k) a0 a1 a2
noncomputable def zZ.V a0 a1 a2 := lim fun k => zZ.f k a0 a1 a2
theorem zZ.v a0 a1 a2 {y} (h : zZ.b yF.V a0 a1 a2 = some y) : zZ.V a0 a1 a2 = some y := Le.v (by unfold zZ.f zZ.b;repeat (first | with_reducible first | exact Le.const | refine Le.bind ?_ fun _ => ?_ | refine Le.cond ?_ ?_ | refine Le.elim (fun _ => ?_) fun _ => ?_ | exact Le.of rfl)) h
theorem zZ.e (k : Nat) (x : Tup (sigTys zZ.hd)) : fnK T0 (zZ.env k) [] zZ.C Tryz.f135 2 79 zZ.hd zZ.os x = zZ.f k x.1 x.2.1 x.2.2 := by kernel_rfl
def zZ.fn (k : Nat) : Kn P0 G0 := ⟨135,2,79,zZ.hd,2,zZ.os,fun x => zZ.f k x.1 x.2.1 x.2.2,contract (T := T0) (fn := Tryz.f135) hm0 hT0 (by kernel_rfl) (by kernel_rfl) (L := []) (C := zZ.C) (by kernel_rfl) (by decide) rfl (by kernel_rfl) (loops_fn zZ.d trivial) (zZ.e k),none⟩
def xh.hd : Sig := [⟨false,0,(.imm api_Int)⟩,⟨false,1,(.imm api_Int)⟩]
def xh.os : List Sig := [[⟨false,0,(.imm (.int .i64))⟩]]
def xh.C : List CutAt := [⟨8,[(.normal,[⟨true,2,(.agg api_Int (.acons (.imm .bool) (.acons (.own 6 false 111 (.int .u32)) .anil)))⟩,⟨true,3,(.agg api_Int (.acons (.imm .bool) (.acons (.own 8 false 111 (.int .u32)) .anil)))⟩,⟨false,2,(.ptr 2 [] api_Int)⟩,⟨false,3,(.ptr 3 [] api_Int)⟩]),(.ret,[⟨false,4,(.imm (.int .i64))⟩])]⟩]
def xh.env (k : Nat) : List (Kn P0 G0) := [yG.fn k,yn.fn k]
theorem xh.d : distN (loopIds (Tryz.f183.body.getD .skip) 0) = true := by kernel_rfl
def xh.b (c0 : WH → Option (Bool × LI)) (c1 : LI → LI → Option Int) (a0 : WH) (a1 : WH) : Option Int := (Option.bind (c0 a0) fun y3 => (Option.bind (c0 a1) fun y4 => (Option.bind (bif y3.1 then (bif (!y4.1) then (some (Sum.inr (-(1 : Int)))) else (bif y4.1 then (bif (!y3.1) then (some (Sum.inr (1 : Int))) else (bif y3.1 then (Option.bind (c1 y4.2 y3.2) fun y5 => (some (Sum.inr y5))) else (some (Sum.inl (y3.1,(y3.2,(y4.1,y4.2))))))) else (bif y3.1 then (Option.bind (c1 y4.2 y3.2) fun y5 => (some (Sum.inr y5))) else (some (Sum.inl (y3.1,(y3.2,(y4.1,y4.2)))))))) else (bif y4.1 then (bif (!y3.1) then (some (Sum.inr (1 : Int))) else (bif y3.1 then (Option.bind (c1 y4.2 y3.2) fun y5 => (some (Sum.inr y5))) else (some (Sum.inl (y3.1,(y3.2,(y4.1,y4.2))))))) else (bif y3.1 then (Option.bind (c1 y4.2 y3.2) fun y5 => (some (Sum.inr y5))) else (some (Sum.inl (y3.1,(y3.2,(y4.1,y4.2)))))))) fun y5 => (Sum.elim (fun y6 => (Option.bind (c1 y6.2.1 y6.2.2.2) fun y7 => (some y7))) (fun y6 => (some y6)) y5))))
def xh.f (k : Nat) a0 a1 := xh.b (yG.f k) (yn.f k) a0 a1
noncomputable def xh.V a0 a1 := lim fun k => xh.f k a0 a1
theorem xh.v a0 a1 {y} (h : xh.b yG.V yn.V a0 a1 = some y) : xh.V a0 a1 = some y := Le.v (by unfold xh.f xh.b;repeat (first | with_reducible first | exact Le.const | refine Le.bind ?_ fun _ => ?_ | refine Le.cond ?_ ?_ | refine Le.elim (fun _ => ?_) fun _ => ?_ | exact Le.of rfl)) h
theorem xh.e (k : Nat) (x : Tup (sigTys xh.hd)) : fnK T0 (xh.env k) [] xh.C Tryz.f183 2 76 xh.hd xh.os x = xh.f k x.1 x.2 := by kernel_rfl
def xh.fn (k : Nat) : Kn P0 G0 := ⟨183,2,76,xh.hd,1,xh.os,fun x => xh.f k x.1 x.2,contract (T := T0) (fn := Tryz.f183) hm0 hT0 (by kernel_rfl) (by kernel_rfl) (L := []) (C := xh.C) (by kernel_rfl) (by decide) rfl (by kernel_rfl) (loops_fn xh.d trivial) (xh.e k),none⟩
def xM.hd : Sig := [⟨false,0,(.imm api_Rat)⟩]
def xM.os : List Sig := [[⟨false,0,(.imm (.int .i64))⟩]]
def xM.C : List CutAt := []
def xM.env (k : Nat) : List (Kn P0 G0) := [yB.fn k,xh.fn k]
theorem xM.d : distN (loopIds (Tryz.f164.body.getD .skip) 0) = true := by kernel_rfl
def xM.b (c0 : RA → Option Bool) (c1 : WH → WH → Option Int) (a0 : RA) : Option Int := (Option.bind (c0 a0) fun y2 => (bif (!y2) then (some (0 : Int)) else (Option.bind (c1 a0.1 (false,(([] : LI),()))) fun y3 => (some y3))))
def xM.f (k : Nat) a0 := xM.b (yB.f k) (xh.f k) a0
noncomputable def xM.V a0 := lim fun k => xM.f k a0
theorem xM.v a0 {y} (h : xM.b yB.V xh.V a0 = some y) : xM.V a0 = some y := Le.v (by unfold xM.f xM.b;repeat (first | with_reducible first | exact Le.const | refine Le.bind ?_ fun _ => ?_ | refine Le.cond ?_ ?_ | refine Le.elim (fun _ => ?_) fun _ => ?_ | exact Le.of rfl)) h
theorem xM.e (k : Nat) (x : Tup (sigTys xM.hd)) : fnK T0 (xM.env k) [] xM.C Tryz.f164 1 20 xM.hd xM.os x = xM.f k x := by kernel_rfl
def xM.fn (k : Nat) : Kn P0 G0 := ⟨164,1,20,xM.hd,1,xM.os,fun x => xM.f k x,contract (T := T0) (fn := Tryz.f164) hm0 hT0 (by kernel_rfl) (by kernel_rfl) (L := []) (C := xM.C) (by kernel_rfl) (by decide) rfl (by kernel_rfl) (loops_fn xM.d trivial) (xM.e k),none⟩
def zd.hd : Sig := [⟨true,238,(.agg simple_maker (.acons (.own 236 false 42 api_Term) (.acons (.mp 237 simple_face (.int .i64)) .anil)))⟩,⟨false,0,(.ptr 238 [] simple_maker)⟩,⟨false,1,(.imm (.int .i64))⟩,⟨false,2,(.imm (.int .i64))⟩]
def zd.os : List Sig := [[⟨true,238,(.agg simple_maker (.acons (.own 236 false 42 api_Term) (.acons (.mp 237 simple_face (.int .i64)) .anil)))⟩,⟨false,0,(.imm (.int .i64))⟩]]
def zd.h0 : Sig := [⟨true,238,(.agg simple_maker (.acons (.own 236 false 42 api_Term) (.acons (.mp 237 simple_face (.int .i64)) .anil)))⟩,⟨false,0,(.ptr 238 [] simple_maker)⟩,⟨false,1,(.imm (.int .i64))⟩,⟨false,2,(.imm (.int .i64))⟩,⟨false,30,(.own 30 false 2 (.int .i64))⟩,⟨false,31,(.imm (.int .i64))⟩,⟨false,32,(.imm (.int .i64))⟩]
def zd.o0 : Outs := [((.exit 0),[⟨true,238,(.agg simple_maker (.acons (.own 236 false 42 api_Term) (.acons (.mp 237 simple_face (.int .i64)) .anil)))⟩,⟨false,0,(.ptr 238 [] simple_maker)⟩,⟨false,1,(.imm (.int .i64))⟩,⟨false,2,(.imm (.int .i64))⟩]),(.ret,[⟨true,238,(.agg simple_maker (.acons (.own 236 false 42 api_Term) (.acons (.mp 237 simple_face (.int .i64)) .anil)))⟩,⟨false,6,(.imm (.int .i64))⟩])]
def zd.C : List CutAt := [⟨24,[(.normal,[⟨true,238,(.agg simple_maker (.acons (.own 236 false 42 api_Term) (.acons (.mp 237 simple_face (.int .i64)) .anil)))⟩,⟨false,0,(.ptr 238 [] simple_maker)⟩,⟨false,1,(.imm (.int .i64))⟩,⟨false,2,(.imm (.int .i64))⟩]),(.ret,[⟨true,238,(.agg simple_maker (.acons (.own 236 false 42 api_Term) (.acons (.mp 237 simple_face (.int .i64)) .anil)))⟩,⟨false,6,(.imm (.int .i64))⟩])]⟩,⟨17,[(.normal,[⟨true,238,(.agg simple_maker (.acons (.own 236 false 42 api_Term) (.acons (.mp 237 simple_face (.int .i64)) .anil)))⟩,⟨true,12,(.imm api_Rat)⟩,⟨false,0,(.ptr 238 [] simple_maker)⟩,⟨false,1,(.imm (.int .i64))⟩,⟨false,2,(.imm (.int .i64))⟩,⟨false,12,(.ptr 12 [] api_Rat)⟩,⟨false,13,(.imm .bool)⟩]),(.ret,[⟨true,238,(.agg simple_maker (.acons (.own 236 false 42 api_Term) (.acons (.mp 237 simple_face (.int .i64)) .anil)))⟩,⟨false,6,(.imm (.int .i64))⟩])]⟩]
def zd.env (rec_simple_maker_mul : CO → MP → Int → Int → Option (CO × MP × Int)) (hrec_simple_maker_mul : Contract P0 G0 56 3 239 zd.hd 1 zd.os (fun x => rec_simple_maker_mul x.1 x.2.1 x.2.2.1 x.2.2.2)) (k : Nat) : List (Kn P0 G0) := [zz.fn k,zv.fn k,zy.fn k,zt.fn k,zT.fn k,zG.fn,xD.fn k,zm.fn k,zn.fn k,⟨56,3,239,zd.hd,1,zd.os,fun x => rec_simple_maker_mul x.1 x.2.1 x.2.2.1 x.2.2.2,hrec_simple_maker_mul,none⟩]
theorem zd.d : distN (loopIds (Tryz.f56.body.getD .skip) 0) = true := by kernel_rfl
def zd.b0 (c0 : CO → MP → Int → Int → Option (CO × MP × Bool)) (c1 : CO → MP → Int → Int → LI → Int → Int → Option ((CO × MP × Int × Int) ⊕ (CO × MP × Int))) (rec_simple_maker_mul : CO → MP → Int → Int → Option (CO × MP × Int)) (x0 : CO) (x1 : MP) (x2 : Int) (x3 : Int) (x4 : LI) (x5 : Int) (x6 : Int) : Option ((CO × MP × Int × Int) ⊕ (CO × MP × Int)) := (bif (decide (x6 < x5)) then (bif (decide (((0 : Int) ≤ x6) ∧ (x6 < (((List.length x4) : Nat) : Int)))) then (Option.bind (c0 x0 (x1,(x2,(rdL (0 : Int) x4 x6))).1 (x1,(x2,(rdL (0 : Int) x4 x6))).2.1 (x1,(x2,(rdL (0 : Int) x4 x6))).2.2) fun y11 => (Option.bind (c0 y11.1 (y11.2.1,(x3,(rdL (0 : Int) x4 x6))).1 (y11.2.1,(x3,(rdL (0 : Int) x4 x6))).2.1 (y11.2.1,(x3,(rdL (0 : Int) x4 x6))).2.2) fun y12 => (bif (!(eqv T140 (y11.2.2 :: (y12.2.2 :: ([] : List Bool))) (false :: (false :: ([] : List Bool))))) then (bif ((rdL false (y11.2.2 :: (y12.2.2 :: ([] : List Bool))) (0 : Int)) == ((rdL (0 : Int) x4 x6) == (0 : Int))) then (some (Sum.inr (y12.1,(y12.2.1,x2)))) else (some (Sum.inr (y12.1,(y12.2.1,x3))))) else (c1 y12.1 y12.2.1 x2 x3 x4 x5 (IntKind.wrap .i64 (x6 + (1 : Int))))))) else none) else (some (Sum.inl (x0,(x1,(x2,x3))))))
def zd.l0 (rec_simple_maker_mul : CO → MP → Int → Int → Option (CO × MP × Int)) : Nat → CO → MP → Int → Int → LI → Int → Int → Option ((CO × MP × Int × Int) ⊕ (CO × MP × Int))
 | 0,_,_,_,_,_,_,_ => none
 | k + 1,x0,x1,x2,x3,x4,x5,x6 => zd.b0 (zT.f k) (zd.l0 rec_simple_maker_mul k) rec_simple_maker_mul x0 x1 x2 x3 x4 x5 x6
def zd.L0 (rec_simple_maker_mul : CO → MP → Int → Int → Option (CO × MP × Int)) (k : Nat) : LFn := ⟨zd.h0,zd.o0,fun x => zd.l0 rec_simple_maker_mul k x.1 x.2.1 x.2.2.1 x.2.2.2.1 x.2.2.2.2.1 x.2.2.2.2.2.1 x.2.2.2.2.2.2⟩
theorem zd.r0 (rec_simple_maker_mul : CO → MP → Int → Int → Option (CO × MP × Int)) (hrec_simple_maker_mul : Contract P0 G0 56 3 239 zd.hd 1 zd.os (fun x => rec_simple_maker_mul x.1 x.2.1 x.2.2.1 x.2.2.2)) (k : Nat) (x : Tup (sigTys zd.h0)) : roundK T0 (zd.env rec_simple_maker_mul hrec_simple_maker_mul k) 118 239 [] zd.C (loopOf Tryz.f56 0) 0 zd.h0 zd.o0 (zd.L0 rec_simple_maker_mul k).f x = (zd.L0 rec_simple_maker_mul (k + 1)).f x := by kernel_rfl
theorem zd.s0 (rec_simple_maker_mul : CO → MP → Int → Int → Option (CO × MP × Int)) (hrec_simple_maker_mul : Contract P0 G0 56 3 239 zd.hd 1 zd.os (fun x => rec_simple_maker_mul x.1 x.2.1 x.2.2.1 x.2.2.2)) (k : Nat) : LoopSound P0 G0 118 239 (sigPins zd.hd) (zd.L0 rec_simple_maker_mul k) (loopOf Tryz.f56 0) := loop_rounds (T := T0) hm0 hT0 (env := fun k => (zd.env rec_simple_maker_mul hrec_simple_maker_mul k)) (nh := 239) (pn := sigPins zd.hd) (L := fun k => []) (C := zd.C) (by kernel_rfl) (hd := zd.h0) (os := zd.o0) (by kernel_rfl) (by kernel_rfl) (by kernel_rfl) (g := fun k => (zd.L0 rec_simple_maker_mul k).f) (fun k => loops_in zd.d trivial) (fun _ => rfl) (fun k x => zd.r0 rec_simple_maker_mul hrec_simple_maker_mul k x) k
def zd.b (c0 : CO → MP → Int → Int → Option (CO × MP × Int × Bool)) (c1 : CO → MP → Int → Int → LI → Int → Int → Option ((CO × MP × Int × Int) ⊕ (CO × MP × Int))) (c2 : RA → RA → Option (Bool × LI × LI × Int)) (c3 : CO → MP → RA → Option (CO × MP × Int)) (c4 : CO → MP → TE → Option (CO × MP × Int)) (rec_simple_maker_mul : CO → MP → Int → Int → Option (CO × MP × Int)) (a0 : CO) (a1 : MP) (a2 : Int) (a3 : Int) : Option (CO × MP × Int) := (Option.bind (c0 a0 (a1,(a2,a3)).1 (a1,(a2,a3)).2.1 (a1,(a2,a3)).2.2) fun y7 => (bif y7.2.2.2 then (some (y7.1,(y7.2.1,y7.2.2.1))) else (Option.bind (c1 y7.1 (y7.2.1,(a2,(a3,(((0 : Int) :: ((1 : Int) :: ([] : LI))),((((List.length ((0 : Int) :: ((1 : Int) :: ([] : LI)))) : Nat) : Int),(0 : Int)))))).1 (y7.2.1,(a2,(a3,(((0 : Int) :: ((1 : Int) :: ([] : LI))),((((List.length ((0 : Int) :: ((1 : Int) :: ([] : LI)))) : Nat) : Int),(0 : Int)))))).2.1 (y7.2.1,(a2,(a3,(((0 : Int) :: ((1 : Int) :: ([] : LI))),((((List.length ((0 : Int) :: ((1 : Int) :: ([] : LI)))) : Nat) : Int),(0 : Int)))))).2.2.1 (y7.2.1,(a2,(a3,(((0 : Int) :: ((1 : Int) :: ([] : LI))),((((List.length ((0 : Int) :: ((1 : Int) :: ([] : LI)))) : Nat) : Int),(0 : Int)))))).2.2.2.1 (y7.2.1,(a2,(a3,(((0 : Int) :: ((1 : Int) :: ([] : LI))),((((List.length ((0 : Int) :: ((1 : Int) :: ([] : LI)))) : Nat) : Int),(0 : Int)))))).2.2.2.2.1 (y7.2.1,(a2,(a3,(((0 : Int) :: ((1 : Int) :: ([] : LI))),((((List.length ((0 : Int) :: ((1 : Int) :: ([] : LI)))) : Nat) : Int),(0 : Int)))))).2.2.2.2.2) fun y8 => (Sum.elim (fun y9 => (Option.bind (zG.f y9.1 (y9.2.1,y9.2.2.1).1 (y9.2.1,y9.2.2.1).2) fun y10 => (Option.bind (Option.bind (zG.f y10.1 (y10.2.1,y9.2.2.2).1 (y10.2.1,y9.2.2.2).2) fun y11 => (bif y11.2.2.2 then (bif (!y10.2.2.2) then (Option.bind (rec_simple_maker_mul y11.1 (y11.2.1,(y9.2.2.2,y9.2.2.1)).1 (y11.2.1,(y9.2.2.2,y9.2.2.1)).2.1 (y11.2.1,(y9.2.2.2,y9.2.2.1)).2.2) fun y12 => (some (Sum.inr (y12.1,(y12.2.1,y12.2.2))))) else (some (Sum.inl (y11.1,(y11.2.1,(y10.2.2.1,(y9.2.2.1,(y9.2.2.2,y10.2.2.2)))))))) else (some (Sum.inl (y11.1,(y11.2.1,(y10.2.2.1,(y9.2.2.1,(y9.2.2.2,y10.2.2.2))))))))) fun y11 => (Sum.elim (fun y12 => (Option.bind (bif (decide (((0 : Int) ≤ y12.2.2.2.2.1) ∧ (y12.2.2.2.2.1 < (((List.length y12.1) : Nat) : Int)))) then (bif y12.2.2.2.2.2 then (bif ((rdL (Ty.zero api_Term) y12.1 y12.2.2.2.2.1).1 == (5 : Int)) then (Option.bind (zG.f y12.1 (y12.2.1,(rdL (Ty.zero api_Term) y12.1 y12.2.2.2.2.1).2.1).1 (y12.2.1,(rdL (Ty.zero api_Term) y12.1 y12.2.2.2.2.1).2.1).2) fun y13 => (bif y13.2.2.2 then (Option.bind (c2 y12.2.2.1 y13.2.2.1) fun y14 => (bif (y14.2.2.2 == (0 : Int)) then (Option.bind (c3 y13.1 (y13.2.1,((y14.1,(y14.2.1,())),(y14.2.2.1,()))).1 (y13.2.1,((y14.1,(y14.2.1,())),(y14.2.2.1,()))).2) fun y15 => (Option.bind (rec_simple_maker_mul y15.1 (y15.2.1,(y15.2.2,(rdL (Ty.zero api_Term) y12.1 y12.2.2.2.2.1).2.2.1)).1 (y15.2.1,(y15.2.2,(rdL (Ty.zero api_Term) y12.1 y12.2.2.2.2.1).2.2.1)).2.1 (y15.2.1,(y15.2.2,(rdL (Ty.zero api_Term) y12.1 y12.2.2.2.2.1).2.2.1)).2.2) fun y16 => (some (Sum.inr (y16.1,(y16.2.1,y16.2.2)))))) else (some (Sum.inl (y13.1,(y13.2.1,(y12.2.2.2.1,y12.2.2.2.2.1))))))) else (some (Sum.inl (y13.1,(y13.2.1,(y12.2.2.2.1,y12.2.2.2.2.1))))))) else (some (Sum.inl (y12.1,(y12.2.1,(y12.2.2.2.1,y12.2.2.2.2.1)))))) else (some (Sum.inl (y12.1,(y12.2.1,(y12.2.2.2.1,y12.2.2.2.2.1)))))) else none) fun y13 => (Sum.elim (fun y14 => (Option.bind (c4 y14.1 (y14.2.1,((5 : Int),(y14.2.2.1,(y14.2.2.2,((0 : Int),(((false,(([] : LI),())),(([] : LI),())),())))))).1 (y14.2.1,((5 : Int),(y14.2.2.1,(y14.2.2.2,((0 : Int),(((false,(([] : LI),())),(([] : LI),())),())))))).2) fun y15 => (some (y15.1,(y15.2.1,y15.2.2))))) (fun y14 => (some (y14.1,(y14.2.1,y14.2.2)))) y13))) (fun y12 => (some (y12.1,(y12.2.1,y12.2.2)))) y11)))) (fun y9 => (some (y9.1,(y9.2.1,y9.2.2)))) y8))))
def zd.F (rec_simple_maker_mul : CO → MP → Int → Int → Option (CO × MP × Int)) (k : Nat) (a0 : CO) (a1 : MP) (a2 : Int) (a3 : Int) : Option (CO × MP × Int) := zd.b (zv.f k) (zd.l0 rec_simple_maker_mul k) (xD.f k) (zm.f k) (zn.f k) rec_simple_maker_mul a0 a1 a2 a3
theorem zd.e (rec_simple_maker_mul : CO → MP → Int → Int → Option (CO × MP × Int)) (hrec_simple_maker_mul : Contract P0 G0 56 3 239 zd.hd 1 zd.os (fun x => rec_simple_maker_mul x.1 x.2.1 x.2.2.1 x.2.2.2)) (k : Nat) (x : Tup (sigTys zd.hd)) : fnK T0 (zd.env rec_simple_maker_mul hrec_simple_maker_mul k) [⟨0,zd.L0 rec_simple_maker_mul k⟩] zd.C Tryz.f56 3 239 zd.hd zd.os x = zd.F rec_simple_maker_mul k x.1 x.2.1 x.2.2.1 x.2.2.2 := by kernel_rfl
def zd.all : Nat → (CO → MP → Int → Int → Option (CO × MP × Int))
 | 0 => fun _ _ _ _ => none
 | k + 1 => zd.F (zd.all k) k
def zd.f (k : Nat) : CO → MP → Int → Int → Option (CO × MP × Int) := (zd.all k)
noncomputable def zd.V a0 a1 a2 a3 := lim fun k => zd.f k a0 a1 a2 a3
noncomputable def zd.V0 x0 x1 x2 x3 x4 x5 x6 := lim2 fun j k => zd.l0 (zd.f j) k x0 x1 x2 x3 x4 x5 x6
theorem zd.v0 x0 x1 x2 x3 x4 x5 x6 {y} (h : zd.b0 zT.V zd.V0 zd.V x0 x1 x2 x3 x4 x5 x6 = some y) : zd.V0 x0 x1 x2 x3 x4 x5 x6 = some y := Le2.v (.succ (by unfold zd.l0 zd.b0;repeat (first | with_reducible exact Le2.const | with_reducible refine Le2.bind ?_ fun _ => ?_ | with_reducible refine Le2.cond ?_ ?_ | with_reducible refine Le2.elim (fun _ => ?_) fun _ => ?_ | exact Le2.of rfl | exact Le2.fst (Le.of rfl) | exact Le2.snd (Le.of rfl)))) h
theorem zd.d0_ (x0 : CO) (x1 : MP) (x2 : Int) (x3 : Int) (x4 : LI) (x5 : Int) (x6 : Int) : Le (zd.V0 x0 x1 x2 x3 x4 x5 x6) fun k => zd.l0 (zd.f k) k x0 x1 x2 x3 x4 x5 x6 := Le2.diag (p := fun j k => zd.l0 (zd.f j) k x0 x1 x2 x3 x4 x5 x6) (.of rfl)
theorem zd.v a0 a1 a2 a3 {y} (h : zd.b zv.V zd.V0 xD.V zm.V zn.V zd.V a0 a1 a2 a3 = some y) : zd.V a0 a1 a2 a3 = some y := Le.v (.succ (by show Le _ fun k => zd.F (zd.f k) k a0 a1 a2 a3;unfold zd.F zd.b;repeat (first | with_reducible first | exact Le.const | refine Le.bind ?_ fun _ => ?_ | refine Le.cond ?_ ?_ | refine Le.elim (fun _ => ?_) fun _ => ?_ | exact zd.d0_ _ _ _ _ _ _ _ | exact Le.of rfl))) h
theorem zd.c : ∀ k,Contract P0 G0 56 3 239 zd.hd 1 zd.os (fun x => zd.f k x.1 x.2.1 x.2.2.1 x.2.2.2)
 | 0 => ⟨by kernel_rfl,fun _ _ _ _ _ _ _ _ _ h => by cases h⟩
 | k + 1 => contract (T := T0) (fn := Tryz.f56) hm0 hT0 (by kernel_rfl) (by kernel_rfl) (env := zd.env (zd.f k) (zd.c k) k) (L := [⟨0,zd.L0 (zd.f k) k⟩]) (C := zd.C) (by kernel_rfl) (by decide) rfl (by kernel_rfl) (loops_fn zd.d ⟨zd.s0 (zd.f k)  (zd.c k) k,trivial⟩) (zd.e (zd.f k) (zd.c k) k)
def zd.fn (k : Nat) : Kn P0 G0 := ⟨56,3,239,zd.hd,1,zd.os,fun x => zd.f k x.1 x.2.1 x.2.2.1 x.2.2.2,(zd.c k),none⟩
def zL.hd : Sig := [⟨true,52,(.agg simple_maker (.acons (.own 50 false 42 api_Term) (.acons (.mp 51 simple_face (.int .i64)) .anil)))⟩,⟨false,0,(.ptr 52 [] simple_maker)⟩,⟨false,1,(.imm api_Rat)⟩,⟨false,2,(.imm (.int .i64))⟩]
def zL.os : List Sig := [[⟨true,52,(.agg simple_maker (.acons (.own 50 false 42 api_Term) (.acons (.mp 51 simple_face (.int .i64)) .anil)))⟩,⟨false,0,(.imm (.int .i64))⟩]]
def zL.C : List CutAt := []
def zL.env (k : Nat) : List (Kn P0 G0) := [xM.fn k,zm.fn k,yF.fn k,xr.fn k,zd.fn k]
theorem zL.d : distN (loopIds (Tryz.f136.body.getD .skip) 0) = true := by kernel_rfl
def zL.b (c0 : RA → Option Int) (c1 : CO → MP → RA → Option (CO × MP × Int)) (c2 : Int → Option (Bool × LI × LI)) (c3 : RA → RA → Option Bool) (c4 : CO → MP → Int → Int → Option (CO × MP × Int)) (a0 : CO) (a1 : MP) (a2 : RA) (a3 : Int) : Option (CO × MP × Int) := (Option.bind (c0 a2) fun y5 => (bif (y5 == (0 : Int)) then (Option.bind (c1 a0 (a1,a2).1 (a1,a2).2) fun y6 => (some (y6.1,(y6.2.1,y6.2.2)))) else (Option.bind (c2 (1 : Int)) fun y6 => (Option.bind (c3 a2 ((y6.1,(y6.2.1,())),(y6.2.2,()))) fun y7 => (bif y7 then (some (a0,(a1,a3))) else (Option.bind (c1 a0 (a1,a2).1 (a1,a2).2) fun y8 => (Option.bind (c4 y8.1 (y8.2.1,(y8.2.2,a3)).1 (y8.2.1,(y8.2.2,a3)).2.1 (y8.2.1,(y8.2.2,a3)).2.2) fun y9 => (some (y9.1,(y9.2.1,y9.2.2))))))))))
def zL.f (k : Nat) a0 a1 a2 a3 := zL.b (xM.f k) (zm.f k) (yF.f k) (xr.f k) (zd.f k) a0 a1 a2 a3
noncomputable def zL.V a0 a1 a2 a3 := lim fun k => zL.f k a0 a1 a2 a3
theorem zL.v a0 a1 a2 a3 {y} (h : zL.b xM.V zm.V yF.V xr.V zd.V a0 a1 a2 a3 = some y) : zL.V a0 a1 a2 a3 = some y := Le.v (by unfold zL.f zL.b;repeat (first | with_reducible first | exact Le.const | refine Le.bind ?_ fun _ => ?_ | refine Le.cond ?_ ?_ | refine Le.elim (fun _ => ?_) fun _ => ?_ | exact Le.of rfl)) h
theorem zL.e (k : Nat) (x : Tup (sigTys zL.hd)) : fnK T0 (zL.env k) [] zL.C Tryz.f136 3 53 zL.hd zL.os x = zL.f k x.1 x.2.1 x.2.2.1 x.2.2.2 := by kernel_rfl
def zL.fn (k : Nat) : Kn P0 G0 := ⟨136,3,53,zL.hd,1,zL.os,fun x => zL.f k x.1 x.2.1 x.2.2.1 x.2.2.2,contract (T := T0) (fn := Tryz.f136) hm0 hT0 (by kernel_rfl) (by kernel_rfl) (L := []) (C := zL.C) (by kernel_rfl) (by decide) rfl (by kernel_rfl) (loops_fn zL.d trivial) (zL.e k),none⟩
def zA.hd : Sig := [⟨true,112,(.agg simple_maker (.acons (.own 110 false 42 api_Term) (.acons (.mp 111 simple_face (.int .i64)) .anil)))⟩,⟨false,0,(.ptr 112 [] simple_maker)⟩,⟨false,1,(.imm (.int .i64))⟩,⟨false,2,(.imm (.int .i64))⟩,⟨false,3,(.fn 76)⟩]
def zA.os : List Sig := [[⟨true,112,(.agg simple_maker (.acons (.own 110 false 42 api_Term) (.acons (.mp 111 simple_face (.int .i64)) .anil)))⟩,⟨false,0,(.imm (.int .i64))⟩,⟨false,1,(.imm .bool)⟩]]
def zA.C : List CutAt := []
def zA.env (k : Nat) : List (Kn P0 G0) := [zZ.fn k,zL.fn k,xy.fn k]
theorem zA.d : distN (loopIds (Tryz.f99.body.getD .skip) 0) = true := by kernel_rfl
def zA.b (c0 : CO → MP → Int → Option (CO × MP × Bool × LI × LI × Int)) (c1 : RA → RA → Option (Bool × LI × LI × Int)) (c2 : CO → MP → RA → Int → Option (CO × MP × Int)) (a0 : CO) (a1 : MP) (a2 : Int) (a3 : Int) : Option (CO × MP × Int × Bool) := (Option.bind (c0 a0 (a1,a2).1 (a1,a2).2) fun y5 => (Option.bind (c0 y5.1 (y5.2.1,a3).1 (y5.2.1,a3).2) fun y6 => (bif (y5.2.2.2.2.2 != y6.2.2.2.2.2) then (some (y6.1,(y6.2.1,((0 : Int),false)))) else (bif (decide (((0 : Int) ≤ y5.2.2.2.2.2) ∧ (y5.2.2.2.2.2 < (((List.length y6.1) : Nat) : Int)))) then (bif ((rdL (Ty.zero api_Term) y6.1 y5.2.2.2.2.2).1 == (1 : Int)) then (some (y6.1,(y6.2.1,((0 : Int),false)))) else (Option.bind (c1 ((y5.2.2.1,(y5.2.2.2.1,())),(y5.2.2.2.2.1,())) ((y6.2.2.1,(y6.2.2.2.1,())),(y6.2.2.2.2.1,()))) fun y7 => (bif (y7.2.2.2 != (0 : Int)) then (some (y6.1,(y6.2.1,((0 : Int),false)))) else (Option.bind (c2 y6.1 (y6.2.1,(((y7.1,(y7.2.1,())),(y7.2.2.1,())),y5.2.2.2.2.2)).1 (y6.2.1,(((y7.1,(y7.2.1,())),(y7.2.2.1,())),y5.2.2.2.2.2)).2.1 (y6.2.1,(((y7.1,(y7.2.1,())),(y7.2.2.1,())),y5.2.2.2.2.2)).2.2) fun y8 => (some (y8.1,(y8.2.1,(y8.2.2,true)))))))) else none))))
def zA.f (k : Nat) a0 a1 a2 a3 := zA.b (zZ.f k) (xy.f k) (zL.f k) a0 a1 a2 a3
noncomputable def zA.V a0 a1 a2 a3 := lim fun k => zA.f k a0 a1 a2 a3
theorem zA.v a0 a1 a2 a3 {y} (h : zA.b zZ.V xy.V zL.V a0 a1 a2 a3 = some y) : zA.V a0 a1 a2 a3 = some y := Le.v (by unfold zA.f zA.b;repeat (first | with_reducible first | exact Le.const | refine Le.bind ?_ fun _ => ?_ | refine Le.cond ?_ ?_ | refine Le.elim (fun _ => ?_) fun _ => ?_ | exact Le.of rfl)) h
theorem zA.e (k : Nat) (x : Tup (sigTys zA.hd)) : fnK T0 (zA.env k) [] zA.C Tryz.f99 4 113 zA.hd zA.os x = zA.f k x.1 x.2.1 x.2.2.1 x.2.2.2 := by kernel_rfl
def zA.fn (k : Nat) : Kn P0 G0 := ⟨99,4,113,zA.hd,2,zA.os,fun x => zA.f k x.1 x.2.1 x.2.2.1 x.2.2.2,contract (T := T0) (fn := Tryz.f99) hm0 hT0 (by kernel_rfl) (by kernel_rfl) (L := []) (C := zA.C) (by kernel_rfl) (by decide) rfl (by kernel_rfl) (loops_fn zA.d trivial) (zA.e k),none⟩
def zB.hd : Sig := [⟨true,112,(.agg simple_maker (.acons (.own 110 false 42 api_Term) (.acons (.mp 111 simple_face (.int .i64)) .anil)))⟩,⟨false,0,(.ptr 112 [] simple_maker)⟩,⟨false,1,(.imm (.int .i64))⟩,⟨false,2,(.imm (.int .i64))⟩,⟨false,3,(.fn 77)⟩]
def zB.os : List Sig := [[⟨true,112,(.agg simple_maker (.acons (.own 110 false 42 api_Term) (.acons (.mp 111 simple_face (.int .i64)) .anil)))⟩,⟨false,0,(.imm (.int .i64))⟩,⟨false,1,(.imm .bool)⟩]]
def zB.C : List CutAt := []
def zB.env (k : Nat) : List (Kn P0 G0) := [zZ.fn k,zL.fn k,xI.fn k]
theorem zB.d : distN (loopIds (Tryz.f99.body.getD .skip) 0) = true := by kernel_rfl
def zB.b (c0 : CO → MP → Int → Option (CO × MP × Bool × LI × LI × Int)) (c1 : RA → RA → Option (Bool × LI × LI × Int)) (c2 : CO → MP → RA → Int → Option (CO × MP × Int)) (a0 : CO) (a1 : MP) (a2 : Int) (a3 : Int) : Option (CO × MP × Int × Bool) := (Option.bind (c0 a0 (a1,a2).1 (a1,a2).2) fun y5 => (Option.bind (c0 y5.1 (y5.2.1,a3).1 (y5.2.1,a3).2) fun y6 => (bif (y5.2.2.2.2.2 != y6.2.2.2.2.2) then (some (y6.1,(y6.2.1,((0 : Int),false)))) else (bif (decide (((0 : Int) ≤ y5.2.2.2.2.2) ∧ (y5.2.2.2.2.2 < (((List.length y6.1) : Nat) : Int)))) then (bif ((rdL (Ty.zero api_Term) y6.1 y5.2.2.2.2.2).1 == (1 : Int)) then (some (y6.1,(y6.2.1,((0 : Int),false)))) else (Option.bind (c1 ((y5.2.2.1,(y5.2.2.2.1,())),(y5.2.2.2.2.1,())) ((y6.2.2.1,(y6.2.2.2.1,())),(y6.2.2.2.2.1,()))) fun y7 => (bif (y7.2.2.2 != (0 : Int)) then (some (y6.1,(y6.2.1,((0 : Int),false)))) else (Option.bind (c2 y6.1 (y6.2.1,(((y7.1,(y7.2.1,())),(y7.2.2.1,())),y5.2.2.2.2.2)).1 (y6.2.1,(((y7.1,(y7.2.1,())),(y7.2.2.1,())),y5.2.2.2.2.2)).2.1 (y6.2.1,(((y7.1,(y7.2.1,())),(y7.2.2.1,())),y5.2.2.2.2.2)).2.2) fun y8 => (some (y8.1,(y8.2.1,(y8.2.2,true)))))))) else none))))
def zB.f (k : Nat) a0 a1 a2 a3 := zB.b (zZ.f k) (xI.f k) (zL.f k) a0 a1 a2 a3
noncomputable def zB.V a0 a1 a2 a3 := lim fun k => zB.f k a0 a1 a2 a3
theorem zB.v a0 a1 a2 a3 {y} (h : zB.b zZ.V xI.V zL.V a0 a1 a2 a3 = some y) : zB.V a0 a1 a2 a3 = some y := Le.v (by unfold zB.f zB.b;repeat (first | with_reducible first | exact Le.const | refine Le.bind ?_ fun _ => ?_ | refine Le.cond ?_ ?_ | refine Le.elim (fun _ => ?_) fun _ => ?_ | exact Le.of rfl)) h
theorem zB.e (k : Nat) (x : Tup (sigTys zB.hd)) : fnK T0 (zB.env k) [] zB.C Tryz.f99 4 113 zB.hd zB.os x = zB.f k x.1 x.2.1 x.2.2.1 x.2.2.2 := by kernel_rfl
def zB.fn (k : Nat) : Kn P0 G0 := ⟨99,4,113,zB.hd,2,zB.os,fun x => zB.f k x.1 x.2.1 x.2.2.1 x.2.2.2,contract (T := T0) (fn := Tryz.f99) hm0 hT0 (by kernel_rfl) (by kernel_rfl) (L := []) (C := zB.C) (by kernel_rfl) (by decide) rfl (by kernel_rfl) (loops_fn zB.d trivial) (zB.e k),none⟩
def ya.hd : Sig := [⟨true,86,(.agg simple_maker (.acons (.own 84 false 42 api_Term) (.acons (.mp 85 simple_face (.int .i64)) .anil)))⟩,⟨false,0,(.ptr 86 [] simple_maker)⟩,⟨false,1,(.imm (.int .i64))⟩,⟨false,2,(.imm (.int .i64))⟩]
def ya.os : List Sig := [[⟨true,86,(.agg simple_maker (.acons (.own 84 false 42 api_Term) (.acons (.mp 85 simple_face (.int .i64)) .anil)))⟩,⟨false,0,(.imm (.int .i64))⟩]]
def ya.C : List CutAt := []
def ya.env (k : Nat) : List (Kn P0 G0) := [zz.fn k,zv.fn k,zy.fn k,zt.fn k,zT.fn k,zB.fn k,zA.fn k,zn.fn k]
theorem ya.d : distN (loopIds (Tryz.f54.body.getD .skip) 0) = true := by kernel_rfl
def ya.b (c0 : CO → MP → Int → Int → Option (CO × MP × Int × Bool)) (c1 : CO → MP → Int → Int → Option (CO × MP × Bool)) (c2 : CO → MP → Int → Int → Option (CO × MP × Int × Bool)) (c3 : CO → MP → TE → Option (CO × MP × Int)) (a0 : CO) (a1 : MP) (a2 : Int) (a3 : Int) : Option (CO × MP × Int) := (Option.bind (c0 a0 (a1,(a2,a3)).1 (a1,(a2,a3)).2.1 (a1,(a2,a3)).2.2) fun y5 => (bif y5.2.2.2 then (some (y5.1,(y5.2.1,y5.2.2.1))) else (Option.bind (c1 y5.1 (y5.2.1,(a2,(0 : Int))).1 (y5.2.1,(a2,(0 : Int))).2.1 (y5.2.1,(a2,(0 : Int))).2.2) fun y6 => (bif y6.2.2 then (some (y6.1,(y6.2.1,a3))) else (Option.bind (c1 y6.1 (y6.2.1,(a3,(0 : Int))).1 (y6.2.1,(a3,(0 : Int))).2.1 (y6.2.1,(a3,(0 : Int))).2.2) fun y7 => (bif y7.2.2 then (some (y7.1,(y7.2.1,a2))) else (Option.bind (c2 y7.1 (y7.2.1,(a2,a3)).1 (y7.2.1,(a2,a3)).2.1 (y7.2.1,(a2,a3)).2.2) fun y8 => (bif y8.2.2.2 then (some (y8.1,(y8.2.1,y8.2.2.1))) else (Option.bind (c3 y8.1 (y8.2.1,((3 : Int),(a2,(a3,((0 : Int),(((false,(([] : LI),())),(([] : LI),())),())))))).1 (y8.2.1,((3 : Int),(a2,(a3,((0 : Int),(((false,(([] : LI),())),(([] : LI),())),())))))).2) fun y9 => (some (y9.1,(y9.2.1,y9.2.2))))))))))))
def ya.f (k : Nat) a0 a1 a2 a3 := ya.b (zt.f k) (zT.f k) (zA.f k) (zn.f k) a0 a1 a2 a3
noncomputable def ya.V a0 a1 a2 a3 := lim fun k => ya.f k a0 a1 a2 a3
theorem ya.v a0 a1 a2 a3 {y} (h : ya.b zt.V zT.V zA.V zn.V a0 a1 a2 a3 = some y) : ya.V a0 a1 a2 a3 = some y := Le.v (by unfold ya.f ya.b;repeat (first | with_reducible first | exact Le.const | refine Le.bind ?_ fun _ => ?_ | refine Le.cond ?_ ?_ | refine Le.elim (fun _ => ?_) fun _ => ?_ | exact Le.of rfl)) h
theorem ya.e (k : Nat) (x : Tup (sigTys ya.hd)) : fnK T0 (ya.env k) [] ya.C Tryz.f54 3 87 ya.hd ya.os x = ya.f k x.1 x.2.1 x.2.2.1 x.2.2.2 := by kernel_rfl
def ya.fn (k : Nat) : Kn P0 G0 := ⟨54,3,87,ya.hd,1,ya.os,fun x => ya.f k x.1 x.2.1 x.2.2.1 x.2.2.2,contract (T := T0) (fn := Tryz.f54) hm0 hT0 (by kernel_rfl) (by kernel_rfl) (L := []) (C := ya.C) (by kernel_rfl) (by decide) rfl (by kernel_rfl) (loops_fn ya.d trivial) (ya.e k),none⟩
def yb.hd : Sig := [⟨true,90,(.agg simple_maker (.acons (.own 88 false 42 api_Term) (.acons (.mp 89 simple_face (.int .i64)) .anil)))⟩,⟨false,0,(.ptr 90 [] simple_maker)⟩,⟨false,1,(.imm (.int .i64))⟩,⟨false,2,(.imm (.int .i64))⟩]
def yb.os : List Sig := [[⟨true,90,(.agg simple_maker (.acons (.own 88 false 42 api_Term) (.acons (.mp 89 simple_face (.int .i64)) .anil)))⟩,⟨false,0,(.imm (.int .i64))⟩]]
def yb.C : List CutAt := []
def yb.env (k : Nat) : List (Kn P0 G0) := [zz.fn k,zv.fn k,zy.fn k,zt.fn k,zT.fn k,yk.fn k,zB.fn k,zA.fn k,zn.fn k]
theorem yb.d : distN (loopIds (Tryz.f55.body.getD .skip) 0) = true := by kernel_rfl
def yb.b (c0 : CO → MP → Int → Int → Option (CO × MP × Int × Bool)) (c1 : CO → MP → Int → Int → Option (CO × MP × Bool)) (c2 : CO → MP → Int → Option (CO × MP × Int)) (c3 : CO → MP → Int → Int → Option (CO × MP × Int × Bool)) (c4 : CO → MP → TE → Option (CO × MP × Int)) (a0 : CO) (a1 : MP) (a2 : Int) (a3 : Int) : Option (CO × MP × Int) := (Option.bind (c0 a0 (a1,(a2,a3)).1 (a1,(a2,a3)).2.1 (a1,(a2,a3)).2.2) fun y5 => (bif y5.2.2.2 then (some (y5.1,(y5.2.1,y5.2.2.1))) else (Option.bind (c1 y5.1 (y5.2.1,(a3,(0 : Int))).1 (y5.2.1,(a3,(0 : Int))).2.1 (y5.2.1,(a3,(0 : Int))).2.2) fun y6 => (bif y6.2.2 then (some (y6.1,(y6.2.1,a2))) else (Option.bind (c1 y6.1 (y6.2.1,(a2,(0 : Int))).1 (y6.2.1,(a2,(0 : Int))).2.1 (y6.2.1,(a2,(0 : Int))).2.2) fun y7 => (bif y7.2.2 then (Option.bind (c2 y7.1 (y7.2.1,a3).1 (y7.2.1,a3).2) fun y8 => (some (y8.1,(y8.2.1,y8.2.2)))) else (Option.bind (c3 y7.1 (y7.2.1,(a2,a3)).1 (y7.2.1,(a2,a3)).2.1 (y7.2.1,(a2,a3)).2.2) fun y8 => (bif y8.2.2.2 then (some (y8.1,(y8.2.1,y8.2.2.1))) else (Option.bind (c4 y8.1 (y8.2.1,((4 : Int),(a2,(a3,((0 : Int),(((false,(([] : LI),())),(([] : LI),())),())))))).1 (y8.2.1,((4 : Int),(a2,(a3,((0 : Int),(((false,(([] : LI),())),(([] : LI),())),())))))).2) fun y9 => (some (y9.1,(y9.2.1,y9.2.2))))))))))))
def yb.f (k : Nat) a0 a1 a2 a3 := yb.b (zy.f k) (zT.f k) (yk.f k) (zB.f k) (zn.f k) a0 a1 a2 a3
noncomputable def yb.V a0 a1 a2 a3 := lim fun k => yb.f k a0 a1 a2 a3
theorem yb.v a0 a1 a2 a3 {y} (h : yb.b zy.V zT.V yk.V zB.V zn.V a0 a1 a2 a3 = some y) : yb.V a0 a1 a2 a3 = some y := Le.v (by unfold yb.f yb.b;repeat (first | with_reducible first | exact Le.const | refine Le.bind ?_ fun _ => ?_ | refine Le.cond ?_ ?_ | refine Le.elim (fun _ => ?_) fun _ => ?_ | exact Le.of rfl)) h
theorem yb.e (k : Nat) (x : Tup (sigTys yb.hd)) : fnK T0 (yb.env k) [] yb.C Tryz.f55 3 91 yb.hd yb.os x = yb.f k x.1 x.2.1 x.2.2.1 x.2.2.2 := by kernel_rfl
def yb.fn (k : Nat) : Kn P0 G0 := ⟨55,3,91,yb.hd,1,yb.os,fun x => yb.f k x.1 x.2.1 x.2.2.1 x.2.2.2,contract (T := T0) (fn := Tryz.f55) hm0 hT0 (by kernel_rfl) (by kernel_rfl) (L := []) (C := yb.C) (by kernel_rfl) (by decide) rfl (by kernel_rfl) (loops_fn yb.d trivial) (yb.e k),none⟩
def yo.hd : Sig := [⟨true,66,(.agg simple_maker (.acons (.own 64 false 42 api_Term) (.acons (.mp 65 simple_face (.int .i64)) .anil)))⟩,⟨false,0,(.ptr 66 [] simple_maker)⟩,⟨false,1,(.imm (.int .i64))⟩,⟨false,2,(.imm (.int .i64))⟩]
def yo.os : List Sig := [[⟨true,66,(.agg simple_maker (.acons (.own 64 false 42 api_Term) (.acons (.mp 65 simple_face (.int .i64)) .anil)))⟩,⟨false,0,(.imm (.int .i64))⟩]]
def yo.C : List CutAt := []
def yo.env (k : Nat) : List (Kn P0 G0) := [zz.fn k,zv.fn k,zy.fn k,zt.fn k,zT.fn k,zn.fn k]
theorem yo.d : distN (loopIds (Tryz.f57.body.getD .skip) 0) = true := by kernel_rfl
def yo.b (c0 : CO → MP → Int → Int → Option (CO × MP × Int × Bool)) (c1 : CO → MP → Int → Int → Option (CO × MP × Bool)) (c2 : CO → MP → TE → Option (CO × MP × Int)) (a0 : CO) (a1 : MP) (a2 : Int) (a3 : Int) : Option (CO × MP × Int) := (Option.bind (c0 a0 (a1,(a2,a3)).1 (a1,(a2,a3)).2.1 (a1,(a2,a3)).2.2) fun y5 => (bif y5.2.2.2 then (some (y5.1,(y5.2.1,y5.2.2.1))) else (Option.bind (c1 y5.1 (y5.2.1,(a3,(1 : Int))).1 (y5.2.1,(a3,(1 : Int))).2.1 (y5.2.1,(a3,(1 : Int))).2.2) fun y6 => (bif y6.2.2 then (some (y6.1,(y6.2.1,a2))) else (Option.bind (c1 y6.1 (y6.2.1,(a2,(0 : Int))).1 (y6.2.1,(a2,(0 : Int))).2.1 (y6.2.1,(a2,(0 : Int))).2.2) fun y7 => (bif y7.2.2 then (some (y7.1,(y7.2.1,a2))) else (Option.bind (c2 y7.1 (y7.2.1,((6 : Int),(a2,(a3,((0 : Int),(((false,(([] : LI),())),(([] : LI),())),())))))).1 (y7.2.1,((6 : Int),(a2,(a3,((0 : Int),(((false,(([] : LI),())),(([] : LI),())),())))))).2) fun y8 => (some (y8.1,(y8.2.1,y8.2.2))))))))))
def yo.f (k : Nat) a0 a1 a2 a3 := yo.b (zz.f k) (zT.f k) (zn.f k) a0 a1 a2 a3
noncomputable def yo.V a0 a1 a2 a3 := lim fun k => yo.f k a0 a1 a2 a3
theorem yo.v a0 a1 a2 a3 {y} (h : yo.b zz.V zT.V zn.V a0 a1 a2 a3 = some y) : yo.V a0 a1 a2 a3 = some y := Le.v (by unfold yo.f yo.b;repeat (first | with_reducible first | exact Le.const | refine Le.bind ?_ fun _ => ?_ | refine Le.cond ?_ ?_ | refine Le.elim (fun _ => ?_) fun _ => ?_ | exact Le.of rfl)) h
theorem yo.e (k : Nat) (x : Tup (sigTys yo.hd)) : fnK T0 (yo.env k) [] yo.C Tryz.f57 3 67 yo.hd yo.os x = yo.f k x.1 x.2.1 x.2.2.1 x.2.2.2 := by kernel_rfl
def yo.fn (k : Nat) : Kn P0 G0 := ⟨57,3,67,yo.hd,1,yo.os,fun x => yo.f k x.1 x.2.1 x.2.2.1 x.2.2.2,contract (T := T0) (fn := Tryz.f57) hm0 hT0 (by kernel_rfl) (by kernel_rfl) (L := []) (C := yo.C) (by kernel_rfl) (by decide) rfl (by kernel_rfl) (loops_fn yo.d trivial) (yo.e k),none⟩
def xO.hd : Sig := [⟨false,0,(.imm (.int .i64))⟩,⟨false,1,(.imm (.int .i64))⟩]
def xO.os : List Sig := [[⟨false,0,(.imm .bool)⟩]]
def xO.C : List CutAt := []
def xO.env : List (Kn P0 G0) := []
theorem xO.d : distN (loopIds (Tryz.f120.body.getD .skip) 0) = true := by kernel_rfl
def xO.f (a0 : Int) (a1 : Int) : Option Bool := (bif (decide (a0 ≥ (IntKind.wrap .i64 ((0 : Int) - a1)))) then (some (decide (a0 ≤ a1))) else (some false))
theorem xO.e (x : Tup (sigTys xO.hd)) : fnK T0 xO.env [] xO.C Tryz.f120 2 28 xO.hd xO.os x = xO.f x.1 x.2 := by kernel_rfl
def xO.fn : Kn P0 G0 := ⟨120,2,28,xO.hd,1,xO.os,fun x => xO.f x.1 x.2,contract (T := T0) (fn := Tryz.f120) hm0 hT0 (by kernel_rfl) (by kernel_rfl) (L := []) (C := xO.C) (by kernel_rfl) (by decide) rfl (by kernel_rfl) (loops_fn xO.d trivial) (xO.e),none⟩
def yN.hd : Sig := [⟨false,0,(.imm api_Rat)⟩]
def yN.os : List Sig := [[⟨false,0,(.agg api_Rat (.acons (.agg api_Int (.acons (.imm .bool) (.acons (.imm (.list (.int .u32))) .anil))) (.acons (.imm (.list (.int .u32))) .anil)))⟩,⟨false,1,(.imm (.int .i64))⟩]]
def yN.C : List CutAt := []
def yN.env (k : Nat) : List (Kn P0 G0) := [yF.fn k,xG.fn k]
theorem yN.d : distN (loopIds (Tryz.f121.body.getD .skip) 0) = true := by kernel_rfl
def yN.b (c0 : Int → Option (Bool × LI × LI)) (c1 : RA → RA → Option (Bool × LI × LI × Int)) (a0 : RA) : Option (Bool × LI × LI × Int) := (Option.bind (c0 (1 : Int)) fun y2 => (Option.bind (c1 ((y2.1,(y2.2.1,())),(y2.2.2,())) a0) fun y3 => (some (y3.1,(y3.2.1,(y3.2.2.1,y3.2.2.2))))))
def yN.f (k : Nat) a0 := yN.b (yF.f k) (xG.f k) a0
noncomputable def yN.V a0 := lim fun k => yN.f k a0
theorem yN.v a0 {y} (h : yN.b yF.V xG.V a0 = some y) : yN.V a0 = some y := Le.v (by unfold yN.f yN.b;repeat (first | with_reducible first | exact Le.const | refine Le.bind ?_ fun _ => ?_ | refine Le.cond ?_ ?_ | refine Le.elim (fun _ => ?_) fun _ => ?_ | exact Le.of rfl)) h
theorem yN.e (k : Nat) (x : Tup (sigTys yN.hd)) : fnK T0 (yN.env k) [] yN.C Tryz.f121 1 18 yN.hd yN.os x = yN.f k x := by kernel_rfl
def yN.fn (k : Nat) : Kn P0 G0 := ⟨121,1,18,yN.hd,2,yN.os,fun x => yN.f k x,contract (T := T0) (fn := Tryz.f121) hm0 hT0 (by kernel_rfl) (by kernel_rfl) (L := []) (C := yN.C) (by kernel_rfl) (by decide) rfl (by kernel_rfl) (loops_fn yN.d trivial) (yN.e k),none⟩
def xN.hd : Sig := [⟨false,0,(.imm (.list (.int .u32)))⟩]
def xN.os : List Sig := [[⟨false,0,(.imm (.int .i64))⟩]]
def xN.C : List CutAt := []
def xN.env (k : Nat) : List (Kn P0 G0) := [zX.fn k,yU.fn]
theorem xN.d : distN (loopIds (Tryz.f156.body.getD .skip) 0) = true := by kernel_rfl
def xN.b (c0 : LI → Option Int) (a0 : LI) : Option Int := (Option.bind (c0 a0) fun y2 => (bif (y2 == (0 : Int)) then (some (0 : Int)) else (bif (decide (((0 : Int) ≤ (IntKind.wrap .i64 (y2 - (1 : Int)))) ∧ ((IntKind.wrap .i64 (y2 - (1 : Int))) < (((List.length a0) : Nat) : Int)))) then (Option.bind (yU.f (rdL (0 : Int) a0 (IntKind.wrap .i64 (y2 - (1 : Int))))) fun y3 => (some (IntKind.wrap .i64 ((IntKind.wrap .i64 ((32 : Int) * (IntKind.wrap .i64 (y2 - (1 : Int))))) + y3)))) else none)))
def xN.f (k : Nat) a0 := xN.b (zX.f k) a0
noncomputable def xN.V a0 := lim fun k => xN.f k a0
theorem xN.v a0 {y} (h : xN.b zX.V a0 = some y) : xN.V a0 = some y := Le.v (by unfold xN.f xN.b;repeat (first | with_reducible first | exact Le.const | refine Le.bind ?_ fun _ => ?_ | refine Le.cond ?_ ?_ | refine Le.elim (fun _ => ?_) fun _ => ?_ | exact Le.of rfl)) h
theorem xN.e (k : Nat) (x : Tup (sigTys xN.hd)) : fnK T0 (xN.env k) [] xN.C Tryz.f156 1 36 xN.hd xN.os x = xN.f k x := by kernel_rfl
def xN.fn (k : Nat) : Kn P0 G0 := ⟨156,1,36,xN.hd,1,xN.os,fun x => xN.f k x,contract (T := T0) (fn := Tryz.f156) hm0 hT0 (by kernel_rfl) (by kernel_rfl) (L := []) (C := xN.C) (by kernel_rfl) (by decide) rfl (by kernel_rfl) (loops_fn xN.d trivial) (xN.e k),none⟩
def wb.hd : Sig := [⟨false,0,(.imm (.list (.int .u32)))⟩,⟨false,1,(.imm (.int .i64))⟩]
def wb.os : List Sig := [[⟨false,0,(.imm .bool)⟩]]
def wb.C : List CutAt := [⟨1000001,[(.normal,[⟨false,4,(.imm .bool)⟩])]⟩]
def wb.env : List (Kn P0 G0) := []
theorem wb.d : distN (loopIds (Tryz.f157.body.getD .skip) 0) = true := by kernel_rfl
def wb.f (a0 : LI) (a1 : Int) : Option Bool := (Option.bind (bif (decide (a1 ≥ (0 : Int))) then (bif (decide ((IntKind.wrap .i64 (Int.tdiv a1 (32 : Int))) < (((List.length a0) : Nat) : Int))) then (bif (decide (((0 : Int) ≤ (IntKind.wrap .i64 (Int.tdiv a1 (32 : Int)))) ∧ ((IntKind.wrap .i64 (Int.tdiv a1 (32 : Int))) < (((List.length a0) : Nat) : Int)))) then (bif (decide ((Int.tmod a1 (32 : Int)) < (0 : Int))) then none else (some ((band .u32 (shrI .u32 (rdL (0 : Int) a0 (IntKind.wrap .i64 (Int.tdiv a1 (32 : Int)))) (Int.tmod a1 (32 : Int))) (1 : Int)) == (1 : Int)))) else none) else (some false)) else (some false)) fun y2 => (some y2))
theorem wb.e (x : Tup (sigTys wb.hd)) : fnK T0 wb.env [] wb.C Tryz.f157 2 52 wb.hd wb.os x = wb.f x.1 x.2 := by kernel_rfl
def wb.fn : Kn P0 G0 := ⟨157,2,52,wb.hd,1,wb.os,fun x => wb.f x.1 x.2,contract (T := T0) (fn := Tryz.f157) hm0 hT0 (by kernel_rfl) (by kernel_rfl) (L := []) (C := wb.C) (by kernel_rfl) (by decide) rfl (by kernel_rfl) (loops_fn wb.d trivial) (wb.e),none⟩
def yu.hd : Sig := [⟨false,0,(.imm (.list (.int .u32)))⟩,⟨false,1,(.imm (.int .i64))⟩]
def yu.os : List Sig := [[⟨false,0,.nilS⟩,⟨false,1,(.imm .bool)⟩],[⟨false,0,(.own 11 false 111 (.int .u32))⟩,⟨false,1,(.imm .bool)⟩]]
def yu.h0 : Sig := [⟨false,0,(.imm (.list (.int .u32)))⟩,⟨false,6,(.own 11 false 111 (.int .u32))⟩,⟨false,7,(.own 14 false 111 (.int .u32))⟩,⟨false,8,(.imm (.int .i64))⟩]
def yu.o0 : Outs := [((.exit 0),[⟨false,6,(.own 11 false 111 (.int .u32))⟩]),(.ret,[⟨false,4,.nilS⟩,⟨false,5,(.imm .bool)⟩])]
def yu.C : List CutAt := []
def yu.env (k : Nat) : List (Kn P0 G0) := [xB.fn k,xN.fn k,zC.fn k,wb.fn]
theorem yu.d : distN (loopIds (Tryz.f122.body.getD .skip) 0) = true := by kernel_rfl
def yu.b0 (c0 : LI → LI → Option LI) (c1 : LI → LI → LI → Int → Option (LI ⊕ Bool)) (x0 : LI) (x1 : LI) (x2 : LI) (x3 : Int) : Option (LI ⊕ Bool) := (bif (decide (x3 ≥ (0 : Int))) then (Option.bind (c0 x1 x1) fun y6 => (bif (decide ((((List.length y6) : Nat) : Int) > (256 : Int))) then (some (Sum.inr false)) else (Option.bind (wb.f x2 x3) fun y7 => (bif (!y7) then (c1 x0 y6 x2 (IntKind.wrap .i64 (x3 - (1 : Int)))) else (Option.bind (c0 y6 x0) fun y8 => (bif (decide ((((List.length y8) : Nat) : Int) > (256 : Int))) then (some (Sum.inr false)) else (c1 x0 y8 x2 (IntKind.wrap .i64 (x3 - (1 : Int)))))))))) else (some (Sum.inl x1)))
def yu.l0 : Nat → LI → LI → LI → Int → Option (LI ⊕ Bool)
 | 0,_,_,_,_ => none
 | k + 1,x0,x1,x2,x3 => yu.b0 (zC.f k) (yu.l0 k) x0 x1 x2 x3
noncomputable def yu.V0 x0 x1 x2 x3 := lim fun k => yu.l0 k x0 x1 x2 x3
theorem yu.v0 x0 x1 x2 x3 {y} (h : yu.b0 zC.V yu.V0 x0 x1 x2 x3 = some y) : yu.V0 x0 x1 x2 x3 = some y := Le.v (.succ (by unfold yu.l0 yu.b0;repeat (first | with_reducible first | exact Le.const | refine Le.bind ?_ fun _ => ?_ | refine Le.cond ?_ ?_ | refine Le.elim (fun _ => ?_) fun _ => ?_ | exact Le.of rfl))) h
def yu.L0 (k : Nat) : LFn := ⟨yu.h0,yu.o0,fun x => yu.l0 k x.1 x.2.1 x.2.2.1 x.2.2.2⟩
theorem yu.r0 (k : Nat) (x : Tup (sigTys yu.h0)) : roundK T0 (yu.env k) 39 78 [] yu.C (loopOf Tryz.f122 0) 0 yu.h0 yu.o0 (yu.L0 k).f x = (yu.L0 (k + 1)).f x := by kernel_rfl
theorem yu.s0 (k : Nat) : LoopSound P0 G0 39 78 (sigPins yu.hd) (yu.L0 k) (loopOf Tryz.f122 0) := loop_rounds (T := T0) hm0 hT0 (env := fun k => (yu.env k)) (nh := 78) (pn := sigPins yu.hd) (L := fun k => []) (C := yu.C) (by kernel_rfl) (hd := yu.h0) (os := yu.o0) (by kernel_rfl) (by kernel_rfl) (by kernel_rfl) (g := fun k => (yu.L0 k).f) (fun k => loops_in yu.d trivial) (fun _ => rfl) (fun k x => yu.r0 k x) k
def yu.b (c0 : Int → Option LI) (c1 : LI → Option Int) (c2 : LI → LI → LI → Int → Option (LI ⊕ Bool)) (a0 : LI) (a1 : Int) : Option (Bool ⊕ (LI × Bool)) := (bif (decide (a1 < (0 : Int))) then (some (Sum.inl false)) else (Option.bind (c0 (1 : Int)) fun y3 => (Option.bind (c0 (IntKind.wrap .u64 a1)) fun y4 => (Option.bind (c1 y4) fun y5 => (Option.bind (c2 a0 (y3,(y4,(IntKind.wrap .i64 (y5 - (1 : Int))))).1 (y3,(y4,(IntKind.wrap .i64 (y5 - (1 : Int))))).2.1 (y3,(y4,(IntKind.wrap .i64 (y5 - (1 : Int))))).2.2) fun y6 => (Sum.elim (fun y7 => (some (Sum.inr (y7,true)))) (fun y7 => (some (Sum.inl y7))) y6))))))
def yu.f (k : Nat) a0 a1 := yu.b (xB.f k) (xN.f k) (yu.l0 k) a0 a1
noncomputable def yu.V a0 a1 := lim fun k => yu.f k a0 a1
theorem yu.v a0 a1 {y} (h : yu.b xB.V xN.V yu.V0 a0 a1 = some y) : yu.V a0 a1 = some y := Le.v (by unfold yu.f yu.b;repeat (first | with_reducible first | exact Le.const | refine Le.bind ?_ fun _ => ?_ | refine Le.cond ?_ ?_ | refine Le.elim (fun _ => ?_) fun _ => ?_ | exact Le.of rfl)) h
theorem yu.e (k : Nat) (x : Tup (sigTys yu.hd)) : fnK T0 (yu.env k) [⟨0,yu.L0 k⟩] yu.C Tryz.f122 2 78 yu.hd yu.os x = yu.f k x.1 x.2 := by kernel_rfl
def yu.fn (k : Nat) : Kn P0 G0 := ⟨122,2,78,yu.hd,2,yu.os,fun x => yu.f k x.1 x.2,contract (T := T0) (fn := Tryz.f122) hm0 hT0 (by kernel_rfl) (by kernel_rfl) (L := [⟨0,yu.L0 k⟩]) (C := yu.C) (by kernel_rfl) (by decide) rfl (by kernel_rfl) (loops_fn yu.d ⟨yu.s0 k,trivial⟩) (yu.e k),none⟩
def yC.hd : Sig := [⟨false,0,(.imm api_Rat)⟩,⟨false,1,(.imm (.int .i64))⟩]
def yC.os : List Sig := [[⟨false,0,(.imm api_Rat)⟩,⟨false,1,(.imm (.int .i64))⟩]]
def yC.C : List CutAt := []
def yC.env (rec_power_Of : RA → Int → Option (RA × Int)) (hrec_power_Of : Contract P0 G0 81 2 174 yC.hd 2 yC.os (fun x => rec_power_Of x.1 x.2)) (k : Nat) : List (Kn P0 G0) := [yB.fn k,xO.fn,yF.fn k,yN.fn k,yu.fn k,xC.fn k,⟨81,2,174,yC.hd,2,yC.os,fun x => rec_power_Of x.1 x.2,hrec_power_Of,none⟩]
theorem yC.d : distN (loopIds (Tryz.f81.body.getD .skip) 0) = true := by kernel_rfl
def yC.b (c0 : RA → Option Bool) (c1 : Int → Option (Bool × LI × LI)) (c2 : RA → Option (Bool × LI × LI × Int)) (c3 : LI → Int → Option (Bool ⊕ (LI × Bool))) (c4 : WH → LI → Option (RA × Int)) (rec_power_Of : RA → Int → Option (RA × Int)) (a0 : RA) (a1 : Int) : Option (RA × Int) := (Option.bind (c0 a0) fun y5 => (bif (!y5) then (some (((false,(([] : LI),())),(([] : LI),())),(1 : Int))) else (Option.bind (xO.f a1 (128 : Int)) fun y6 => (bif (!y6) then (some (((false,(([] : LI),())),(([] : LI),())),(2 : Int))) else (bif (a1 == (0 : Int)) then (Option.bind (c1 (1 : Int)) fun y7 => (some (((y7.1,(y7.2.1,())),(y7.2.2,())),(0 : Int)))) else (bif (decide (a1 < (0 : Int))) then (Option.bind (c2 a0) fun y7 => (bif (y7.2.2.2 != (0 : Int)) then (some (((false,(([] : LI),())),(([] : LI),())),y7.2.2.2)) else (Option.bind (rec_power_Of ((y7.1,(y7.2.1,())),(y7.2.2.1,())) (IntKind.wrap .i64 ((0 : Int) - a1))) fun y8 => (some (y8.1,y8.2))))) else (Option.bind (c3 a0.1.2.1 a1) fun y7 => (Sum.elim (fun y8 => (Option.bind (c3 a0.2.1 a1) fun y9 => (Sum.elim (fun y10 => (bif (!y8) then (some (((false,(([] : LI),())),(([] : LI),())),(2 : Int))) else (bif (!y10) then (some (((false,(([] : LI),())),(([] : LI),())),(2 : Int))) else (bif a0.1.1 then (Option.bind (c4 (((Int.tmod a1 (2 : Int)) == (1 : Int)),(([] : LI),())) (copyL ([] : LI) (List.replicate (Int.toNat (0 : Int)) (0 : Int)))) fun y11 => (some (y11.1,y11.2))) else (Option.bind (c4 (false,(([] : LI),())) (copyL ([] : LI) (List.replicate (Int.toNat (0 : Int)) (0 : Int)))) fun y11 => (some (y11.1,y11.2))))))) (fun y10 => (bif (!y8) then (some (((false,(([] : LI),())),(([] : LI),())),(2 : Int))) else (bif (!y10.2) then (some (((false,(([] : LI),())),(([] : LI),())),(2 : Int))) else (bif (decide (((0 : Int) ≤ (((List.length y10.1) : Nat) : Int)) ∧ (((((List.length y10.1) : Nat) : Int) ≤ (((List.length y10.1) : Nat) : Int)) ∧ ((((List.length y10.1) : Nat) : Int) ≤ ((68719476736 : Nat) : Int))))) then (bif a0.1.1 then (Option.bind (c4 (((Int.tmod a1 (2 : Int)) == (1 : Int)),(([] : LI),())) (copyL y10.1 (List.replicate (Int.toNat (((List.length y10.1) : Nat) : Int)) (0 : Int)))) fun y11 => (some (y11.1,y11.2))) else (Option.bind (c4 (false,(([] : LI),())) (copyL y10.1 (List.replicate (Int.toNat (((List.length y10.1) : Nat) : Int)) (0 : Int)))) fun y11 => (some (y11.1,y11.2)))) else none)))) y9))) (fun y8 => (Option.bind (c3 a0.2.1 a1) fun y9 => (Sum.elim (fun y10 => (bif (!y8.2) then (some (((false,(([] : LI),())),(([] : LI),())),(2 : Int))) else (bif (!y10) then (some (((false,(([] : LI),())),(([] : LI),())),(2 : Int))) else (bif a0.1.1 then (Option.bind (c4 (((Int.tmod a1 (2 : Int)) == (1 : Int)),(y8.1,())) (copyL ([] : LI) (List.replicate (Int.toNat (0 : Int)) (0 : Int)))) fun y11 => (some (y11.1,y11.2))) else (Option.bind (c4 (false,(y8.1,())) (copyL ([] : LI) (List.replicate (Int.toNat (0 : Int)) (0 : Int)))) fun y11 => (some (y11.1,y11.2))))))) (fun y10 => (bif (!y8.2) then (some (((false,(([] : LI),())),(([] : LI),())),(2 : Int))) else (bif (!y10.2) then (some (((false,(([] : LI),())),(([] : LI),())),(2 : Int))) else (bif (decide (((0 : Int) ≤ (((List.length y10.1) : Nat) : Int)) ∧ (((((List.length y10.1) : Nat) : Int) ≤ (((List.length y10.1) : Nat) : Int)) ∧ ((((List.length y10.1) : Nat) : Int) ≤ ((68719476736 : Nat) : Int))))) then (bif a0.1.1 then (Option.bind (c4 (((Int.tmod a1 (2 : Int)) == (1 : Int)),(y8.1,())) (copyL y10.1 (List.replicate (Int.toNat (((List.length y10.1) : Nat) : Int)) (0 : Int)))) fun y11 => (some (y11.1,y11.2))) else (Option.bind (c4 (false,(y8.1,())) (copyL y10.1 (List.replicate (Int.toNat (((List.length y10.1) : Nat) : Int)) (0 : Int)))) fun y11 => (some (y11.1,y11.2)))) else none)))) y9))) y7))))))))
def yC.F (rec_power_Of : RA → Int → Option (RA × Int)) (k : Nat) (a0 : RA) (a1 : Int) : Option (RA × Int) := yC.b (yB.f k) (yF.f k) (yN.f k) (yu.f k) (xC.f k) rec_power_Of a0 a1
theorem yC.e (rec_power_Of : RA → Int → Option (RA × Int)) (hrec_power_Of : Contract P0 G0 81 2 174 yC.hd 2 yC.os (fun x => rec_power_Of x.1 x.2)) (k : Nat) (x : Tup (sigTys yC.hd)) : fnK T0 (yC.env rec_power_Of hrec_power_Of k) [] yC.C Tryz.f81 2 174 yC.hd yC.os x = yC.F rec_power_Of k x.1 x.2 := by kernel_rfl
def yC.all : Nat → (RA → Int → Option (RA × Int))
 | 0 => fun _ _ => none
 | k + 1 => yC.F (yC.all k) k
def yC.f (k : Nat) : RA → Int → Option (RA × Int) := (yC.all k)
noncomputable def yC.V a0 a1 := lim fun k => yC.f k a0 a1
theorem yC.v a0 a1 {y} (h : yC.b yB.V yF.V yN.V yu.V xC.V yC.V a0 a1 = some y) : yC.V a0 a1 = some y := Le.v (.succ (by show Le _ fun k => yC.F (yC.f k) k a0 a1;unfold yC.F yC.b;repeat (first | with_reducible first | exact Le.const | refine Le.bind ?_ fun _ => ?_ | refine Le.cond ?_ ?_ | refine Le.elim (fun _ => ?_) fun _ => ?_ | exact Le.of rfl))) h
theorem yC.c : ∀ k,Contract P0 G0 81 2 174 yC.hd 2 yC.os (fun x => yC.f k x.1 x.2)
 | 0 => ⟨by kernel_rfl,fun _ _ _ _ _ _ _ _ _ h => by cases h⟩
 | k + 1 => contract (T := T0) (fn := Tryz.f81) hm0 hT0 (by kernel_rfl) (by kernel_rfl) (env := yC.env (yC.f k) (yC.c k) k) (L := []) (C := yC.C) (by kernel_rfl) (by decide) rfl (by kernel_rfl) (loops_fn yC.d trivial) (yC.e (yC.f k) (yC.c k) k)
def yC.fn (k : Nat) : Kn P0 G0 := ⟨81,2,174,yC.hd,2,yC.os,fun x => yC.f k x.1 x.2,(yC.c k),none⟩
def zr.hd : Sig := [⟨true,154,(.agg simple_maker (.acons (.own 152 false 42 api_Term) (.acons (.mp 153 simple_face (.int .i64)) .anil)))⟩,⟨false,0,(.ptr 154 [] simple_maker)⟩,⟨false,1,(.imm (.int .i64))⟩,⟨false,2,(.imm (.int .i64))⟩]
def zr.os : List Sig := [[⟨true,154,(.agg simple_maker (.acons (.own 152 false 42 api_Term) (.acons (.mp 153 simple_face (.int .i64)) .anil)))⟩,⟨false,0,(.imm (.int .i64))⟩]]
def zr.C : List CutAt := [⟨1000012,[(.normal,[⟨true,154,(.agg simple_maker (.acons (.own 152 false 42 api_Term) (.acons (.mp 153 simple_face (.int .i64)) .anil)))⟩,⟨true,11,(.imm api_Term)⟩,⟨false,0,(.ptr 154 [] simple_maker)⟩,⟨false,1,(.imm (.int .i64))⟩,⟨false,2,(.imm (.int .i64))⟩,⟨false,11,(.ptr 11 [] api_Term)⟩,⟨false,62,(.imm .bool)⟩])]⟩,⟨11,[(.normal,[⟨true,154,(.agg simple_maker (.acons (.own 152 false 42 api_Term) (.acons (.mp 153 simple_face (.int .i64)) .anil)))⟩,⟨false,0,(.ptr 154 [] simple_maker)⟩,⟨false,1,(.imm (.int .i64))⟩,⟨false,2,(.imm (.int .i64))⟩]),(.ret,[⟨true,154,(.agg simple_maker (.acons (.own 152 false 42 api_Term) (.acons (.mp 153 simple_face (.int .i64)) .anil)))⟩,⟨false,6,(.imm (.int .i64))⟩])]⟩]
def zr.env (rec_simple_maker_pow : CO → MP → Int → Int → Option (CO × MP × Int)) (hrec_simple_maker_pow : Contract P0 G0 58 3 155 zr.hd 1 zr.os (fun x => rec_simple_maker_pow x.1 x.2.1 x.2.2.1 x.2.2.2)) (k : Nat) : List (Kn P0 G0) := [yF.fn k,zm.fn k,zG.fn,yC.fn k,zn.fn k,⟨58,3,155,zr.hd,1,zr.os,fun x => rec_simple_maker_pow x.1 x.2.1 x.2.2.1 x.2.2.2,hrec_simple_maker_pow,none⟩]
theorem zr.d : distN (loopIds (Tryz.f58.body.getD .skip) 0) = true := by kernel_rfl
def zr.b (c0 : Int → Option (Bool × LI × LI)) (c1 : CO → MP → RA → Option (CO × MP × Int)) (c2 : RA → Int → Option (RA × Int)) (c3 : CO → MP → TE → Option (CO × MP × Int)) (rec_simple_maker_pow : CO → MP → Int → Int → Option (CO × MP × Int)) (a0 : CO) (a1 : MP) (a2 : Int) (a3 : Int) : Option (CO × MP × Int) := (bif (a3 == (0 : Int)) then (Option.bind (c0 (1 : Int)) fun y7 => (Option.bind (c1 a0 (a1,((y7.1,(y7.2.1,())),(y7.2.2,()))).1 (a1,((y7.1,(y7.2.1,())),(y7.2.2,()))).2) fun y8 => (some (y8.1,(y8.2.1,y8.2.2))))) else (bif (a3 == (1 : Int)) then (some (a0,(a1,a2))) else (Option.bind (Option.bind (zG.f a0 (a1,a2).1 (a1,a2).2) fun y7 => (bif y7.2.2.2 then (Option.bind (c2 y7.2.2.1 a3) fun y8 => (bif (y8.2 == (0 : Int)) then (Option.bind (c1 y7.1 (y7.2.1,y8.1).1 (y7.2.1,y8.1).2) fun y9 => (some (Sum.inr (y9.1,(y9.2.1,y9.2.2))))) else (some (Sum.inl (y7.1,(y7.2.1,(a2,a3))))))) else (some (Sum.inl (y7.1,(y7.2.1,(a2,a3))))))) fun y7 => (Sum.elim (fun y8 => (bif (decide (((0 : Int) ≤ y8.2.2.1) ∧ (y8.2.2.1 < (((List.length y8.1) : Nat) : Int)))) then (Option.bind (bif ((rdL (Ty.zero api_Term) y8.1 y8.2.2.1).1 == (8 : Int)) then (bif (decide ((IntKind.wrap .i64 ((rdL (Ty.zero api_Term) y8.1 y8.2.2.1).2.2.2.1 * y8.2.2.2)) ≥ (-(128 : Int)))) then (some (y8.1,(y8.2.1,((rdL (Ty.zero api_Term) y8.1 y8.2.2.1),(y8.2.2.1,(y8.2.2.2,(decide ((IntKind.wrap .i64 ((rdL (Ty.zero api_Term) y8.1 y8.2.2.1).2.2.2.1 * y8.2.2.2)) ≤ (128 : Int))))))))) else (some (y8.1,(y8.2.1,((rdL (Ty.zero api_Term) y8.1 y8.2.2.1),(y8.2.2.1,(y8.2.2.2,false))))))) else (some (y8.1,(y8.2.1,((rdL (Ty.zero api_Term) y8.1 y8.2.2.1),(y8.2.2.1,(y8.2.2.2,false))))))) fun y9 => (bif y9.2.2.2.2.2 then (Option.bind (rec_simple_maker_pow y9.1 (y9.2.1,(y9.2.2.1.2.1,(IntKind.wrap .i64 (y9.2.2.1.2.2.2.1 * y9.2.2.2.2.1)))).1 (y9.2.1,(y9.2.2.1.2.1,(IntKind.wrap .i64 (y9.2.2.1.2.2.2.1 * y9.2.2.2.2.1)))).2.1 (y9.2.1,(y9.2.2.1.2.1,(IntKind.wrap .i64 (y9.2.2.1.2.2.2.1 * y9.2.2.2.2.1)))).2.2) fun y10 => (some (y10.1,(y10.2.1,y10.2.2)))) else (Option.bind (c3 y9.1 (y9.2.1,((8 : Int),(y9.2.2.2.1,((0 : Int),(y9.2.2.2.2.1,(((false,(([] : LI),())),(([] : LI),())),())))))).1 (y9.2.1,((8 : Int),(y9.2.2.2.1,((0 : Int),(y9.2.2.2.2.1,(((false,(([] : LI),())),(([] : LI),())),())))))).2) fun y10 => (some (y10.1,(y10.2.1,y10.2.2)))))) else none)) (fun y8 => (some (y8.1,(y8.2.1,y8.2.2)))) y7))))
def zr.F (rec_simple_maker_pow : CO → MP → Int → Int → Option (CO × MP × Int)) (k : Nat) (a0 : CO) (a1 : MP) (a2 : Int) (a3 : Int) : Option (CO × MP × Int) := zr.b (yF.f k) (zm.f k) (yC.f k) (zn.f k) rec_simple_maker_pow a0 a1 a2 a3
theorem zr.e (rec_simple_maker_pow : CO → MP → Int → Int → Option (CO × MP × Int)) (hrec_simple_maker_pow : Contract P0 G0 58 3 155 zr.hd 1 zr.os (fun x => rec_simple_maker_pow x.1 x.2.1 x.2.2.1 x.2.2.2)) (k : Nat) (x : Tup (sigTys zr.hd)) : fnK T0 (zr.env rec_simple_maker_pow hrec_simple_maker_pow k) [] zr.C Tryz.f58 3 155 zr.hd zr.os x = zr.F rec_simple_maker_pow k x.1 x.2.1 x.2.2.1 x.2.2.2 := by kernel_rfl
def zr.all : Nat → (CO → MP → Int → Int → Option (CO × MP × Int))
 | 0 => fun _ _ _ _ => none
 | k + 1 => zr.F (zr.all k) k
def zr.f (k : Nat) : CO → MP → Int → Int → Option (CO × MP × Int) := (zr.all k)
noncomputable def zr.V a0 a1 a2 a3 := lim fun k => zr.f k a0 a1 a2 a3
theorem zr.v a0 a1 a2 a3 {y} (h : zr.b yF.V zm.V yC.V zn.V zr.V a0 a1 a2 a3 = some y) : zr.V a0 a1 a2 a3 = some y := Le.v (.succ (by show Le _ fun k => zr.F (zr.f k) k a0 a1 a2 a3;unfold zr.F zr.b;repeat (first | with_reducible first | exact Le.const | refine Le.bind ?_ fun _ => ?_ | refine Le.cond ?_ ?_ | refine Le.elim (fun _ => ?_) fun _ => ?_ | exact Le.of rfl))) h
theorem zr.c : ∀ k,Contract P0 G0 58 3 155 zr.hd 1 zr.os (fun x => zr.f k x.1 x.2.1 x.2.2.1 x.2.2.2)
 | 0 => ⟨by kernel_rfl,fun _ _ _ _ _ _ _ _ _ h => by cases h⟩
 | k + 1 => contract (T := T0) (fn := Tryz.f58) hm0 hT0 (by kernel_rfl) (by kernel_rfl) (env := zr.env (zr.f k) (zr.c k) k) (L := []) (C := zr.C) (by kernel_rfl) (by decide) rfl (by kernel_rfl) (loops_fn zr.d trivial) (zr.e (zr.f k) (zr.c k) k)
def zr.fn (k : Nat) : Kn P0 G0 := ⟨58,3,155,zr.hd,1,zr.os,fun x => zr.f k x.1 x.2.1 x.2.2.1 x.2.2.2,(zr.c k),none⟩
def zI.hd : Sig := [⟨true,190,(.agg simple_maker (.acons (.own 188 false 42 api_Term) (.acons (.mp 189 simple_face (.int .i64)) .anil)))⟩,⟨false,0,(.ptr 190 [] simple_maker)⟩,⟨false,1,(.imm api_Term)⟩,⟨false,2,(.imm (.list (.int .i64)))⟩]
def zI.os : List Sig := [[⟨true,190,(.agg simple_maker (.acons (.own 188 false 42 api_Term) (.acons (.mp 189 simple_face (.int .i64)) .anil)))⟩,⟨false,0,(.imm (.int .i64))⟩]]
def zI.C : List CutAt := []
def zI.env (k : Nat) : List (Kn P0 G0) := [zm.fn k,yk.fn k,ya.fn k,yb.fn k,zd.fn k,yo.fn k,zr.fn k,zn.fn k]
theorem zI.d : distN (loopIds (Tryz.f27.body.getD .skip) 0) = true := by kernel_rfl
def zI.b (c0 : CO → MP → RA → Option (CO × MP × Int)) (c1 : CO → MP → Int → Option (CO × MP × Int)) (c2 : CO → MP → Int → Int → Option (CO × MP × Int)) (c3 : CO → MP → Int → Int → Option (CO × MP × Int)) (c4 : CO → MP → Int → Int → Option (CO × MP × Int)) (c5 : CO → MP → Int → Int → Option (CO × MP × Int)) (c6 : CO → MP → Int → Int → Option (CO × MP × Int)) (c7 : CO → MP → TE → Option (CO × MP × Int)) (a0 : CO) (a1 : MP) (a2 : TE) (a3 : LI) : Option (CO × MP × Int) := (bif (a2.1 == (1 : Int)) then (Option.bind (c0 a0 (a1,a2.2.2.2.2.1).1 (a1,a2.2.2.2.2.1).2) fun y5 => (some (y5.1,(y5.2.1,y5.2.2)))) else (bif (a2.1 == (7 : Int)) then (bif (decide (((0 : Int) ≤ a2.2.1) ∧ (a2.2.1 < (((List.length a3) : Nat) : Int)))) then (Option.bind (c1 a0 (a1,(rdL (0 : Int) a3 a2.2.1)).1 (a1,(rdL (0 : Int) a3 a2.2.1)).2) fun y5 => (some (y5.1,(y5.2.1,y5.2.2)))) else none) else (bif (a2.1 == (3 : Int)) then (bif (decide (((0 : Int) ≤ a2.2.1) ∧ (a2.2.1 < (((List.length a3) : Nat) : Int)))) then (bif (decide (((0 : Int) ≤ a2.2.2.1) ∧ (a2.2.2.1 < (((List.length a3) : Nat) : Int)))) then (Option.bind (c2 a0 (a1,((rdL (0 : Int) a3 a2.2.1),(rdL (0 : Int) a3 a2.2.2.1))).1 (a1,((rdL (0 : Int) a3 a2.2.1),(rdL (0 : Int) a3 a2.2.2.1))).2.1 (a1,((rdL (0 : Int) a3 a2.2.1),(rdL (0 : Int) a3 a2.2.2.1))).2.2) fun y5 => (some (y5.1,(y5.2.1,y5.2.2)))) else none) else none) else (bif (a2.1 == (4 : Int)) then (bif (decide (((0 : Int) ≤ a2.2.1) ∧ (a2.2.1 < (((List.length a3) : Nat) : Int)))) then (bif (decide (((0 : Int) ≤ a2.2.2.1) ∧ (a2.2.2.1 < (((List.length a3) : Nat) : Int)))) then (Option.bind (c3 a0 (a1,((rdL (0 : Int) a3 a2.2.1),(rdL (0 : Int) a3 a2.2.2.1))).1 (a1,((rdL (0 : Int) a3 a2.2.1),(rdL (0 : Int) a3 a2.2.2.1))).2.1 (a1,((rdL (0 : Int) a3 a2.2.1),(rdL (0 : Int) a3 a2.2.2.1))).2.2) fun y5 => (some (y5.1,(y5.2.1,y5.2.2)))) else none) else none) else (bif (a2.1 == (5 : Int)) then (bif (decide (((0 : Int) ≤ a2.2.1) ∧ (a2.2.1 < (((List.length a3) : Nat) : Int)))) then (bif (decide (((0 : Int) ≤ a2.2.2.1) ∧ (a2.2.2.1 < (((List.length a3) : Nat) : Int)))) then (Option.bind (c4 a0 (a1,((rdL (0 : Int) a3 a2.2.1),(rdL (0 : Int) a3 a2.2.2.1))).1 (a1,((rdL (0 : Int) a3 a2.2.1),(rdL (0 : Int) a3 a2.2.2.1))).2.1 (a1,((rdL (0 : Int) a3 a2.2.1),(rdL (0 : Int) a3 a2.2.2.1))).2.2) fun y5 => (some (y5.1,(y5.2.1,y5.2.2)))) else none) else none) else (bif (a2.1 == (6 : Int)) then (bif (decide (((0 : Int) ≤ a2.2.1) ∧ (a2.2.1 < (((List.length a3) : Nat) : Int)))) then (bif (decide (((0 : Int) ≤ a2.2.2.1) ∧ (a2.2.2.1 < (((List.length a3) : Nat) : Int)))) then (Option.bind (c5 a0 (a1,((rdL (0 : Int) a3 a2.2.1),(rdL (0 : Int) a3 a2.2.2.1))).1 (a1,((rdL (0 : Int) a3 a2.2.1),(rdL (0 : Int) a3 a2.2.2.1))).2.1 (a1,((rdL (0 : Int) a3 a2.2.1),(rdL (0 : Int) a3 a2.2.2.1))).2.2) fun y5 => (some (y5.1,(y5.2.1,y5.2.2)))) else none) else none) else (bif (a2.1 == (8 : Int)) then (bif (decide (((0 : Int) ≤ a2.2.1) ∧ (a2.2.1 < (((List.length a3) : Nat) : Int)))) then (Option.bind (c6 a0 (a1,((rdL (0 : Int) a3 a2.2.1),a2.2.2.2.1)).1 (a1,((rdL (0 : Int) a3 a2.2.1),a2.2.2.2.1)).2.1 (a1,((rdL (0 : Int) a3 a2.2.1),a2.2.2.2.1)).2.2) fun y5 => (some (y5.1,(y5.2.1,y5.2.2)))) else none) else (Option.bind (c7 a0 (a1,a2).1 (a1,a2).2) fun y5 => (some (y5.1,(y5.2.1,y5.2.2)))))))))))
def zI.f (k : Nat) a0 a1 a2 a3 := zI.b (zm.f k) (yk.f k) (ya.f k) (yb.f k) (zd.f k) (yo.f k) (zr.f k) (zn.f k) a0 a1 a2 a3
noncomputable def zI.V a0 a1 a2 a3 := lim fun k => zI.f k a0 a1 a2 a3
theorem zI.v a0 a1 a2 a3 {y} (h : zI.b zm.V yk.V ya.V yb.V zd.V yo.V zr.V zn.V a0 a1 a2 a3 = some y) : zI.V a0 a1 a2 a3 = some y := Le.v (by unfold zI.f zI.b;repeat (first | with_reducible first | exact Le.const | refine Le.bind ?_ fun _ => ?_ | refine Le.cond ?_ ?_ | refine Le.elim (fun _ => ?_) fun _ => ?_ | exact Le.of rfl)) h
theorem zI.e (k : Nat) (x : Tup (sigTys zI.hd)) : fnK T0 (zI.env k) [] zI.C Tryz.f27 3 191 zI.hd zI.os x = zI.f k x.1 x.2.1 x.2.2.1 x.2.2.2 := by kernel_rfl
def zI.fn (k : Nat) : Kn P0 G0 := ⟨27,3,191,zI.hd,1,zI.os,fun x => zI.f k x.1 x.2.1 x.2.2.1 x.2.2.2,contract (T := T0) (fn := Tryz.f27) hm0 hT0 (by kernel_rfl) (by kernel_rfl) (L := []) (C := zI.C) (by kernel_rfl) (by decide) rfl (by kernel_rfl) (loops_fn zI.d trivial) (zI.e k),none⟩
end
end Go.Proofs.YtlfcdmibknmjeaaGreatDoor.E
