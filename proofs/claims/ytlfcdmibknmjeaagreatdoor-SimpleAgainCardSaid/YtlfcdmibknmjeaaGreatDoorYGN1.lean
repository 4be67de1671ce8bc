import Derived.Test.YtlfcdmibknmjeaaGreatDoorYGN0
namespace Go.Proofs.YtlfcdmibknmjeaaGreatDoor.E
open Go Go.Proofs.YtlfcdmibknmjeaaGreatDoor.Ev
set_option linter.unusedVariables false
set_option maxRecDepth 100000
set_option maxHeartbeats 2000000
noncomputable section
def zg.hd:Sig:=[⟨false,0,(.imm (.list api_Term))⟩,⟨false,1,(.imm (.int .i64))⟩]
def zg.os:List Sig:=[[⟨false,0,.nilS⟩],[⟨false,0,(.own 24 false 4 .bool)⟩]]
def zg.h0:Sig:=[⟨false,0,(.imm (.list api_Term))⟩,⟨false,5,(.own 24 false 4 .bool)⟩,⟨false,6,(.imm (.int .i64))⟩,⟨false,42,(.own 42 false 3 (.int .i64))⟩,⟨false,43,(.imm (.int .i64))⟩,⟨false,44,(.imm (.int .i64))⟩]
def zg.o0:Outs:=[((.exit 2),[⟨false,0,(.imm (.list api_Term))⟩,⟨false,5,(.own 24 false 4 .bool)⟩,⟨false,6,(.imm (.int .i64))⟩])]
def zg.h1:Sig:=[⟨false,0,(.imm (.list api_Term))⟩,⟨false,5,(.own 24 false 4 .bool)⟩,⟨false,6,(.imm (.int .i64))⟩]
def zg.o1:Outs:=[((.exit 0),[⟨false,5,(.own 24 false 4 .bool)⟩])]
def zg.C:List CutAt:=[⟨1000001,[(.normal,[⟨false,0,(.imm (.list api_Term))⟩,⟨false,1,(.imm (.int .i64))⟩,⟨false,21,(.imm .bool)⟩])]⟩]
def zg.env (k:Nat):List (Kn P0 G0):=[zR.fn k,xe.fn]
theorem zg.d:distN (loopIds (Tryz.f26.body.getD .skip) 0)=true:=by kernel_rfl
def zg.b0 (c0:CO→List Bool→Int→LI→Int→Int→Option (CO × (List Bool) × Int)) (x0:CO) (x1:List Bool) (x2:Int) (x3:LI) (x4:Int) (x5:Int):Option (CO × (List Bool) × Int):=(bif (decide (x5 < x4)) then (bif (decide (((0:Int) ≤ x5)∧(x5 < (((List.length x3):Nat):Int)))) then (bif (decide (((0:Int) ≤ (rdL (0:Int) x3 x5))∧((rdL (0:Int) x3 x5) < (((List.length x1):Nat):Int)))) then (c0 x0 (List.set x1 (Int.toNat (rdL (0:Int) x3 x5)) true) x2 x3 x4 (IntKind.wrap .i64 (x5 + (1:Int)))) else none) else none) else (some (x0,(x1,x2))))
def zg.l0:Nat→CO→List Bool→Int→LI→Int→Int→Option (CO × (List Bool) × Int)
 | 0,_,_,_,_,_,_=>none
 | k + 1,x0,x1,x2,x3,x4,x5=>zg.b0 (zg.l0 k) x0 x1 x2 x3 x4 x5
noncomputable def zg.V0 x0 x1 x2 x3 x4 x5:=lim fun k=>zg.l0 k x0 x1 x2 x3 x4 x5
theorem zg.v0 x0 x1 x2 x3 x4 x5 {y} (h:zg.b0 zg.V0 x0 x1 x2 x3 x4 x5=some y):zg.V0 x0 x1 x2 x3 x4 x5=some y:=Le.v (.succ (by unfold zg.l0 zg.b0;repeat (first | with_reducible first | exact Le.const | refine Le.bind ?_ fun _=>?_ | refine Le.cond ?_ ?_ | refine Le.elim (fun _=>?_) fun _=>?_ | exact Le.of rfl))) h
def zg.L0 (k:Nat):LFn:=⟨zg.h0,zg.o0,fun x=>zg.l0 k x.1 x.2.1 x.2.2.1 x.2.2.2.1 x.2.2.2.2.1 x.2.2.2.2.2⟩
theorem zg.r0 (k:Nat) (x:Tup (sigTys zg.h0)):roundK T0 (zg.env k) 53 106 [] zg.C (loopOf Tryz.f26 2) 2 zg.h0 zg.o0 (zg.L0 k).f x=(zg.L0 (k + 1)).f x:=by kernel_rfl
theorem zg.s0 (k:Nat):LoopSound P0 G0 53 106 (sigPins zg.hd) (zg.L0 k) (loopOf Tryz.f26 2):=loop_rounds (T:=T0) hm0 hT0 (env:=fun k=>(zg.env k)) (nh:=106) (pn:=sigPins zg.hd) (L:=fun k=>[]) (C:=zg.C) (by kernel_rfl) (hd:=zg.h0) (os:=zg.o0) (by kernel_rfl) (by kernel_rfl) (by kernel_rfl) (g:=fun k=>(zg.L0 k).f) (fun k=>loops_in zg.d trivial) (fun _=>rfl) (fun k x=>zg.r0 k x) k
def zg.b1 (c0:CO→List Bool→Int→Option (List Bool)) (c1:CO→List Bool→Int→LI→Int→Int→Option (CO × (List Bool) × Int)) (x0:CO) (x1:List Bool) (x2:Int):Option (List Bool):=(bif (decide (x2 ≥ (0:Int))) then (bif (decide (((0:Int) ≤ x2)∧(x2 < (((List.length x1):Nat):Int)))) then (bif (!(rdL false x1 x2)) then (c0 x0 x1 (IntKind.wrap .i64 (x2 - (1:Int)))) else (bif (decide (((0:Int) ≤ x2)∧(x2 < (((List.length x0):Nat):Int)))) then (Option.bind (xe.f (rdL (Ty.zero api_Term) x0 x2)) fun y5=>(Sum.elim (fun y6=>(Option.bind (c1 x0 (x1,(x2,(y6,((((List.length y6):Nat):Int),(0:Int))))).1 (x1,(x2,(y6,((((List.length y6):Nat):Int),(0:Int))))).2.1 (x1,(x2,(y6,((((List.length y6):Nat):Int),(0:Int))))).2.2.1 (x1,(x2,(y6,((((List.length y6):Nat):Int),(0:Int))))).2.2.2.1 (x1,(x2,(y6,((((List.length y6):Nat):Int),(0:Int))))).2.2.2.2) fun y7=>(c0 y7.1 y7.2.1 (IntKind.wrap .i64 (y7.2.2 - (1:Int)))))) (fun y6=>(Option.bind (c1 x0 (x1,(x2,(([]:LI),((0:Int),(0:Int))))).1 (x1,(x2,(([]:LI),((0:Int),(0:Int))))).2.1 (x1,(x2,(([]:LI),((0:Int),(0:Int))))).2.2.1 (x1,(x2,(([]:LI),((0:Int),(0:Int))))).2.2.2.1 (x1,(x2,(([]:LI),((0:Int),(0:Int))))).2.2.2.2) fun y7=>(c0 y7.1 y7.2.1 (IntKind.wrap .i64 (y7.2.2 - (1:Int)))))) y5)) else none)) else none) else (some x1))
def zg.l1:Nat→CO→List Bool→Int→Option (List Bool)
 | 0,_,_,_=>none
 | k + 1,x0,x1,x2=>zg.b1 (zg.l1 k) (zg.l0 k) x0 x1 x2
noncomputable def zg.V1 x0 x1 x2:=lim fun k=>zg.l1 k x0 x1 x2
theorem zg.v1 x0 x1 x2 {y} (h:zg.b1 zg.V1 zg.V0 x0 x1 x2=some y):zg.V1 x0 x1 x2=some y:=Le.v (.succ (by unfold zg.l1 zg.b1;repeat (first | with_reducible first | exact Le.const | refine Le.bind ?_ fun _=>?_ | refine Le.cond ?_ ?_ | refine Le.elim (fun _=>?_) fun _=>?_ | exact Le.of rfl))) h
def zg.L1 (k:Nat):LFn:=⟨zg.h1,zg.o1,fun x=>zg.l1 k x.1 x.2.1 x.2.2⟩
theorem zg.r1 (k:Nat) (x:Tup (sigTys zg.h1)):roundK T0 (zg.env k) 53 106 [⟨2,zg.L0 k⟩] zg.C (loopOf Tryz.f26 0) 0 zg.h1 zg.o1 (zg.L1 k).f x=(zg.L1 (k + 1)).f x:=by kernel_rfl
theorem zg.s1 (k:Nat):LoopSound P0 G0 53 106 (sigPins zg.hd) (zg.L1 k) (loopOf Tryz.f26 0):=loop_rounds (T:=T0) hm0 hT0 (env:=fun k=>(zg.env k)) (nh:=106) (pn:=sigPins zg.hd) (L:=fun k=>[⟨2,zg.L0 k⟩]) (C:=zg.C) (by kernel_rfl) (hd:=zg.h1) (os:=zg.o1) (by kernel_rfl) (by kernel_rfl) (by kernel_rfl) (g:=fun k=>(zg.L1 k).f) (fun k=>loops_in zg.d ⟨zg.s0 k,trivial⟩) (fun _=>rfl) (fun k x=>zg.r1 k x) k
def zg.b (c0:CO→Option Bool) (c1:CO→List Bool→Int→Option (List Bool)) (a0:CO) (a1:Int):Option ((Unit) ⊕ (List Bool)):=(Option.bind (bif (decide (a1 < (0:Int))) then (some (a0,(a1,true))) else (bif (decide (a1 ≥ (((List.length a0):Nat):Int))) then (some (a0,(a1,true))) else (Option.bind (c0 a0) fun y3=>(some (a0,(a1,(!y3))))))) fun y3=>(bif y3.2.2 then (some (Sum.inl ())) else (bif (decide (((0:Int) ≤ (((List.length y3.1):Nat):Int))∧(((((List.length y3.1):Nat):Int) ≤ (((List.length y3.1):Nat):Int))∧((((List.length y3.1):Nat):Int) ≤ ((68719476736:Nat):Int))))) then (bif (decide (((0:Int) ≤ y3.2.1)∧(y3.2.1 < (((List.length (List.replicate (Int.toNat (((List.length y3.1):Nat):Int)) false)):Nat):Int)))) then (Option.bind (c1 y3.1 ((List.set (List.replicate (Int.toNat (((List.length y3.1):Nat):Int)) false) (Int.toNat y3.2.1) true),y3.2.1).1 ((List.set (List.replicate (Int.toNat (((List.length y3.1):Nat):Int)) false) (Int.toNat y3.2.1) true),y3.2.1).2) fun y4=>(some (Sum.inr y4))) else none) else none)))
def zg.f (k:Nat) a0 a1:=zg.b (zR.f k) (zg.l1 k) a0 a1
noncomputable def zg.V a0 a1:=lim fun k=>zg.f k a0 a1
theorem zg.v a0 a1 {y} (h:zg.b zR.V zg.V1 a0 a1=some y):zg.V a0 a1=some y:=Le.v (by unfold zg.f zg.b;repeat (first | with_reducible first | exact Le.const | refine Le.bind ?_ fun _=>?_ | refine Le.cond ?_ ?_ | refine Le.elim (fun _=>?_) fun _=>?_ | exact Le.of rfl)) h
theorem zg.e (k:Nat) (x:Tup (sigTys zg.hd)):fnK T0 (zg.env k) [⟨2,zg.L0 k⟩,⟨0,zg.L1 k⟩] zg.C Tryz.f26 2 106 zg.hd zg.os x=zg.f k x.1 x.2:=by kernel_rfl
def zg.fn (k:Nat):Kn P0 G0:=⟨26,2,106,zg.hd,1,zg.os,fun x=>zg.f k x.1 x.2,contract (T:=T0) (fn:=Tryz.f26) hm0 hT0 (by kernel_rfl) (by kernel_rfl) (L:=[⟨2,zg.L0 k⟩,⟨0,zg.L1 k⟩]) (C:=zg.C) (by kernel_rfl) (by decide) rfl (by kernel_rfl) (loops_fn zg.d ⟨zg.s0 k,zg.s1 k,trivial⟩) (zg.e k),none⟩
def yw.hd:Sig:=[⟨false,0,(.imm .bool)⟩,⟨false,1,(.imm (.list (.int .u32)))⟩]
def yw.os:List Sig:=[[⟨false,0,(.agg api_Int (.acons (.imm .bool) (.acons (.own 13 false 111 (.int .u32)) .anil)))⟩]]
def yw.C:List CutAt:=[]
def yw.env (k:Nat):List (Kn P0 G0):=[yo.fn k]
theorem yw.d:distN (loopIds (Tryz.f153.body.getD .skip) 0)=true:=by kernel_rfl
def yw.b (c0:LI→Option LI) (a0:Bool) (a1:LI):Option (Bool × LI):=(bif (decide (((0:Int) ≤ (((List.length a1):Nat):Int))∧(((((List.length a1):Nat):Int) ≤ (((List.length a1):Nat):Int))∧((((List.length a1):Nat):Int) ≤ ((68719476736:Nat):Int))))) then (Option.bind (c0 (copyL a1 (List.replicate (Int.toNat (((List.length a1):Nat):Int)) (0:Int)))) fun y3=>(bif a0 then (some ((decide ((((List.length y3):Nat):Int) > (0:Int))),y3)) else (some (false,y3)))) else none)
def yw.f (k:Nat) a0 a1:=yw.b (yo.f k) a0 a1
noncomputable def yw.V a0 a1:=lim fun k=>yw.f k a0 a1
theorem yw.v a0 a1 {y} (h:yw.b yo.V a0 a1=some y):yw.V a0 a1=some y:=Le.v (by unfold yw.f yw.b;repeat (first | with_reducible first | exact Le.const | refine Le.bind ?_ fun _=>?_ | refine Le.cond ?_ ?_ | refine Le.elim (fun _=>?_) fun _=>?_ | exact Le.of rfl)) h
theorem yw.e (k:Nat) (x:Tup (sigTys yw.hd)):fnK T0 (yw.env k) [] yw.C Tryz.f153 2 44 yw.hd yw.os x=yw.f k x.1 x.2:=by kernel_rfl
def yw.fn (k:Nat):Kn P0 G0:=⟨153,2,44,yw.hd,1,yw.os,fun x=>yw.f k x.1 x.2,contract (T:=T0) (fn:=Tryz.f153) hm0 hT0 (by kernel_rfl) (by kernel_rfl) (L:=[]) (C:=yw.C) (by kernel_rfl) (by decide) rfl (by kernel_rfl) (loops_fn yw.d trivial) (yw.e k),none⟩
def yV.hd:Sig:=[⟨false,0,(.imm api_Int)⟩]
def yV.os:List Sig:=[[⟨false,0,(.agg api_Int (.acons (.imm .bool) (.acons (.own 8 false 111 (.int .u32)) .anil)))⟩]]
def yV.C:List CutAt:=[]
def yV.env (k:Nat):List (Kn P0 G0):=[yw.fn k]
theorem yV.d:distN (loopIds (Tryz.f119.body.getD .skip) 0)=true:=by kernel_rfl
def yV.b (c0:Bool→LI→Option (Bool × LI)) (a0:WH):Option (Bool × LI):=(Option.bind (c0 (!a0.1) a0.2.1) fun y2=>(some (y2.1,y2.2)))
def yV.f (k:Nat) a0:=yV.b (yw.f k) a0
noncomputable def yV.V a0:=lim fun k=>yV.f k a0
theorem yV.v a0 {y} (h:yV.b yw.V a0=some y):yV.V a0=some y:=Le.v (by unfold yV.f yV.b;repeat (first | with_reducible first | exact Le.const | refine Le.bind ?_ fun _=>?_ | refine Le.cond ?_ ?_ | refine Le.elim (fun _=>?_) fun _=>?_ | exact Le.of rfl)) h
theorem yV.e (k:Nat) (x:Tup (sigTys yV.hd)):fnK T0 (yV.env k) [] yV.C Tryz.f119 1 18 yV.hd yV.os x=yV.f k x:=by kernel_rfl
def yV.fn (k:Nat):Kn P0 G0:=⟨119,1,18,yV.hd,1,yV.os,fun x=>yV.f k x,contract (T:=T0) (fn:=Tryz.f119) hm0 hT0 (by kernel_rfl) (by kernel_rfl) (L:=[]) (C:=yV.C) (by kernel_rfl) (by decide) rfl (by kernel_rfl) (loops_fn yV.d trivial) (yV.e k),none⟩
def xj.hd:Sig:=[⟨false,0,(.imm api_Rat)⟩]
def xj.os:List Sig:=[[⟨false,0,(.agg api_Rat (.acons (.agg api_Int (.acons (.imm .bool) (.acons (.own 18 false 111 (.int .u32)) .anil))) (.acons (.own 11 false 111 (.int .u32)) .anil)))⟩]]
def xj.C:List CutAt:=[]
def xj.env (k:Nat):List (Kn P0 G0):=[yu.fn k,yV.fn k]
theorem xj.d:distN (loopIds (Tryz.f80.body.getD .skip) 0)=true:=by kernel_rfl
def xj.b (c0:RA→Option Bool) (c1:WH→Option (Bool × LI)) (a0:RA):Option (Bool × LI × LI):=(Option.bind (c0 a0) fun y2=>(bif (!y2) then (some (false,(([]:LI),([]:LI)))) else (bif (decide (((0:Int) ≤ (((List.length a0.2.1):Nat):Int))∧(((((List.length a0.2.1):Nat):Int) ≤ (((List.length a0.2.1):Nat):Int))∧((((List.length a0.2.1):Nat):Int) ≤ ((68719476736:Nat):Int))))) then (Option.bind (c1 a0.1) fun y3=>(some (y3.1,(y3.2,(copyL a0.2.1 (List.replicate (Int.toNat (((List.length a0.2.1):Nat):Int)) (0:Int))))))) else none)))
def xj.f (k:Nat) a0:=xj.b (yu.f k) (yV.f k) a0
noncomputable def xj.V a0:=lim fun k=>xj.f k a0
theorem xj.v a0 {y} (h:xj.b yu.V yV.V a0=some y):xj.V a0=some y:=Le.v (by unfold xj.f xj.b;repeat (first | with_reducible first | exact Le.const | refine Le.bind ?_ fun _=>?_ | refine Le.cond ?_ ?_ | refine Le.elim (fun _=>?_) fun _=>?_ | exact Le.of rfl)) h
theorem xj.e (k:Nat) (x:Tup (sigTys xj.hd)):fnK T0 (xj.env k) [] xj.C Tryz.f80 1 42 xj.hd xj.os x=xj.f k x:=by kernel_rfl
def xj.fn (k:Nat):Kn P0 G0:=⟨80,1,42,xj.hd,1,xj.os,fun x=>xj.f k x,contract (T:=T0) (fn:=Tryz.f80) hm0 hT0 (by kernel_rfl) (by kernel_rfl) (L:=[]) (C:=xj.C) (by kernel_rfl) (by decide) rfl (by kernel_rfl) (loops_fn xj.d trivial) (xj.e k),none⟩
def yy.hd:Sig:=[⟨false,0,(.imm api_Int)⟩]
def yy.os:List Sig:=[[⟨false,0,(.agg api_Int (.acons (.imm .bool) (.acons (.own 7 false 111 (.int .u32)) .anil)))⟩]]
def yy.C:List CutAt:=[]
def yy.env (k:Nat):List (Kn P0 G0):=[yw.fn k]
theorem yy.d:distN (loopIds (Tryz.f152.body.getD .skip) 0)=true:=by kernel_rfl
def yy.b (c0:Bool→LI→Option (Bool × LI)) (a0:WH):Option (Bool × LI):=(Option.bind (c0 a0.1 a0.2.1) fun y2=>(some (y2.1,y2.2)))
def yy.f (k:Nat) a0:=yy.b (yw.f k) a0
noncomputable def yy.V a0:=lim fun k=>yy.f k a0
theorem yy.v a0 {y} (h:yy.b yw.V a0=some y):yy.V a0=some y:=Le.v (by unfold yy.f yy.b;repeat (first | with_reducible first | exact Le.const | refine Le.bind ?_ fun _=>?_ | refine Le.cond ?_ ?_ | refine Le.elim (fun _=>?_) fun _=>?_ | exact Le.of rfl)) h
theorem yy.e (k:Nat) (x:Tup (sigTys yy.hd)):fnK T0 (yy.env k) [] yy.C Tryz.f152 1 16 yy.hd yy.os x=yy.f k x:=by kernel_rfl
def yy.fn (k:Nat):Kn P0 G0:=⟨152,1,16,yy.hd,1,yy.os,fun x=>yy.f k x,contract (T:=T0) (fn:=Tryz.f152) hm0 hT0 (by kernel_rfl) (by kernel_rfl) (L:=[]) (C:=yy.C) (by kernel_rfl) (by decide) rfl (by kernel_rfl) (loops_fn yy.d trivial) (yy.e k),none⟩
def yR.hd:Sig:=[⟨false,0,(.imm (.int .u32))⟩,⟨false,1,(.imm (.int .u32))⟩,⟨false,2,(.imm (.int .u32))⟩]
def yR.os:List Sig:=[[⟨false,0,(.imm (.int .u32))⟩,⟨false,1,(.imm (.int .u32))⟩]]
def yR.C:List CutAt:=[⟨3,[(.normal,[⟨false,0,(.imm (.int .u32))⟩,⟨false,1,(.imm (.int .u32))⟩,⟨false,2,(.imm (.int .u32))⟩])]⟩]
def yR.env:List (Kn P0 G0):=[]
theorem yR.d:distN (loopIds (Tryz.f184.body.getD .skip) 0)=true:=by kernel_rfl
def yR.f (a0:Int) (a1:Int) (a2:Int):Option (Int × Int):=(Option.bind (bif (a2 != (0:Int)) then (bif (decide (a2 ≤ a0)) then none else (some (a0,(a1,a2)))) else (some (a0,(a1,a2)))) fun y3=>(bif (decide ((IntKind.wrap .u64 y3.2.2)=(0:Int))) then none else (bif (decide ((IntKind.wrap .u64 y3.2.2)=(0:Int))) then none else (some ((IntKind.wrap .u32 (IntKind.wrap .u64 (Int.tdiv (bor .u64 (shlI .u64 (IntKind.wrap .u64 y3.1) (32:Int)) (IntKind.wrap .u64 y3.2.1)) (IntKind.wrap .u64 y3.2.2)))),(IntKind.wrap .u32 (Int.tmod (bor .u64 (shlI .u64 (IntKind.wrap .u64 y3.1) (32:Int)) (IntKind.wrap .u64 y3.2.1)) (IntKind.wrap .u64 y3.2.2))))))))
theorem yR.e (x:Tup (sigTys yR.hd)):fnK T0 yR.env [] yR.C Tryz.f184 3 66 yR.hd yR.os x=yR.f x.1 x.2.1 x.2.2:=by kernel_rfl
def yR.fn:Kn P0 G0:=⟨184,3,66,yR.hd,2,yR.os,fun x=>yR.f x.1 x.2.1 x.2.2,contract (T:=T0) (fn:=Tryz.f184) hm0 hT0 (by kernel_rfl) (by kernel_rfl) (L:=[]) (C:=yR.C) (by kernel_rfl) (by decide) rfl (by kernel_rfl) (loops_fn yR.d trivial) (yR.e),none⟩
def zS.hd:Sig:=[⟨false,0,(.imm (.list (.int .u32)))⟩,⟨false,1,(.imm (.int .u32))⟩]
def zS.os:List Sig:=[[⟨false,0,.nilS⟩,⟨false,1,(.imm (.int .u32))⟩,⟨false,2,(.imm .bool)⟩],[⟨false,0,(.own 34 false 111 (.int .u32))⟩,⟨false,1,(.imm (.int .u32))⟩,⟨false,2,(.imm .bool)⟩]]
def zS.h0:Sig:=[⟨false,1,(.imm (.int .u32))⟩,⟨false,5,(.imm (.int .u32))⟩,⟨false,7,(.own 12 false 111 (.int .u32))⟩,⟨false,8,(.imm (.int .i64))⟩]
def zS.o0:Outs:=[((.exit 0),[⟨false,5,(.imm (.int .u32))⟩,⟨false,7,(.own 12 false 111 (.int .u32))⟩])]
def zS.C:List CutAt:=[]
def zS.env (k:Nat):List (Kn P0 G0):=[yo.fn k,yR.fn]
theorem zS.d:distN (loopIds (Tryz.f165.body.getD .skip) 0)=true:=by kernel_rfl
def zS.b0 (c0:Int→Int→LI→Int→Option (Int × LI)) (x0:Int) (x1:Int) (x2:LI) (x3:Int):Option (Int × LI):=(bif (decide (x3 ≥ (0:Int))) then (bif (decide (((0:Int) ≤ x3)∧(x3 < (((List.length x2):Nat):Int)))) then (Option.bind (yR.f x1 ((rdL (0:Int) x2 x3),x0).1 ((rdL (0:Int) x2 x3),x0).2) fun y6=>(bif (decide (((0:Int) ≤ x3)∧(x3 < (((List.length x2):Nat):Int)))) then (c0 x0 y6.2 (List.set x2 (Int.toNat x3) y6.1) (IntKind.wrap .i64 (x3 - (1:Int)))) else none)) else none) else (some (x1,x2)))
def zS.l0:Nat→Int→Int→LI→Int→Option (Int × LI)
 | 0,_,_,_,_=>none
 | k + 1,x0,x1,x2,x3=>zS.b0 (zS.l0 k) x0 x1 x2 x3
noncomputable def zS.V0 x0 x1 x2 x3:=lim fun k=>zS.l0 k x0 x1 x2 x3
theorem zS.v0 x0 x1 x2 x3 {y} (h:zS.b0 zS.V0 x0 x1 x2 x3=some y):zS.V0 x0 x1 x2 x3=some y:=Le.v (.succ (by unfold zS.l0 zS.b0;repeat (first | with_reducible first | exact Le.const | refine Le.bind ?_ fun _=>?_ | refine Le.cond ?_ ?_ | refine Le.elim (fun _=>?_) fun _=>?_ | exact Le.of rfl))) h
def zS.L0 (k:Nat):LFn:=⟨zS.h0,zS.o0,fun x=>zS.l0 k x.1 x.2.1 x.2.2.1 x.2.2.2⟩
theorem zS.r0 (k:Nat) (x:Tup (sigTys zS.h0)):roundK T0 (zS.env k) 36 72 [] zS.C (loopOf Tryz.f165 0) 0 zS.h0 zS.o0 (zS.L0 k).f x=(zS.L0 (k + 1)).f x:=by kernel_rfl
theorem zS.s0 (k:Nat):LoopSound P0 G0 36 72 (sigPins zS.hd) (zS.L0 k) (loopOf Tryz.f165 0):=loop_rounds (T:=T0) hm0 hT0 (env:=fun k=>(zS.env k)) (nh:=72) (pn:=sigPins zS.hd) (L:=fun k=>[]) (C:=zS.C) (by kernel_rfl) (hd:=zS.h0) (os:=zS.o0) (by kernel_rfl) (by kernel_rfl) (by kernel_rfl) (g:=fun k=>(zS.L0 k).f) (fun k=>loops_in zS.d trivial) (fun _=>rfl) (fun k x=>zS.r0 k x) k
def zS.b (c0:LI→Option LI) (c1:Int→Int→LI→Int→Option (Int × LI)) (a0:LI) (a1:Int):Option ((Int × Bool) ⊕ (LI × Int × Bool)):=(bif (a1 == (0:Int)) then (some (Sum.inl ((0:Int),false))) else (Option.bind (c0 a0) fun y3=>(Option.bind (c1 a1 ((0:Int),(y3,(IntKind.wrap .i64 ((((List.length y3):Nat):Int) - (1:Int))))).1 ((0:Int),(y3,(IntKind.wrap .i64 ((((List.length y3):Nat):Int) - (1:Int))))).2.1 ((0:Int),(y3,(IntKind.wrap .i64 ((((List.length y3):Nat):Int) - (1:Int))))).2.2) fun y4=>(Option.bind (c0 y4.2) fun y5=>(some (Sum.inr (y5,(y4.1,true))))))))
def zS.f (k:Nat) a0 a1:=zS.b (yo.f k) (zS.l0 k) a0 a1
noncomputable def zS.V a0 a1:=lim fun k=>zS.f k a0 a1
theorem zS.v a0 a1 {y} (h:zS.b yo.V zS.V0 a0 a1=some y):zS.V a0 a1=some y:=Le.v (by unfold zS.f zS.b;repeat (first | with_reducible first | exact Le.const | refine Le.bind ?_ fun _=>?_ | refine Le.cond ?_ ?_ | refine Le.elim (fun _=>?_) fun _=>?_ | exact Le.of rfl)) h
theorem zS.e (k:Nat) (x:Tup (sigTys zS.hd)):fnK T0 (zS.env k) [⟨0,zS.L0 k⟩] zS.C Tryz.f165 2 72 zS.hd zS.os x=zS.f k x.1 x.2:=by kernel_rfl
def zS.fn (k:Nat):Kn P0 G0:=⟨165,2,72,zS.hd,3,zS.os,fun x=>zS.f k x.1 x.2,contract (T:=T0) (fn:=Tryz.f165) hm0 hT0 (by kernel_rfl) (by kernel_rfl) (L:=[⟨0,zS.L0 k⟩]) (C:=zS.C) (by kernel_rfl) (by decide) rfl (by kernel_rfl) (loops_fn zS.d ⟨zS.s0 k,trivial⟩) (zS.e k),none⟩
def zf.hd:Sig:=[⟨false,0,(.imm (.list (.int .u32)))⟩]
def zf.os:List Sig:=[[⟨false,0,(.imm .str)⟩]]
def zf.h0:Sig:=[⟨false,3,(.own 28 false 5 (.int .u8))⟩,⟨false,4,(.own 16 false 111 (.int .u32))⟩,⟨false,5,(.imm (.int .u32))⟩,⟨false,20,(.imm (.int .i64))⟩]
def zf.o0:Outs:=[((.exit 2),[⟨false,3,(.own 28 false 5 (.int .u8))⟩,⟨false,4,(.own 16 false 111 (.int .u32))⟩])]
def zf.h1:Sig:=[⟨false,0,(.own 8 false 111 (.int .u32))⟩,⟨false,3,(.own 28 false 5 (.int .u8))⟩]
def zf.o1:Outs:=[((.exit 0),[⟨false,3,(.own 28 false 5 (.int .u8))⟩])]
def zf.h2:Sig:=[⟨false,3,(.own 28 false 5 (.int .u8))⟩]
def zf.o2:Outs:=[((.exit 4),[⟨false,3,(.own 28 false 5 (.int .u8))⟩])]
def zf.C:List CutAt:=[]
def zf.env (k:Nat):List (Kn P0 G0):=[yo.fn k,zS.fn k,wd.fn]
theorem zf.d:distN (loopIds (Tryz.f138.body.getD .skip) 0)=true:=by kernel_rfl
def zf.b0 (c0:LI→LI→Int→Int→Option (LI × LI)) (x0:LI) (x1:LI) (x2:Int) (x3:Int):Option (LI × LI):=(bif (decide (x3 < (9:Int))) then (bif (decide (((List.length x0) + (List.length ((IntKind.wrap .u8 ((48:Int) + (IntKind.wrap .u8 (Int.tmod x2 (10:Int))))) :: ([]:LI)))) ≤ 68719476736)) then (c0 (x0 ++ ((IntKind.wrap .u8 ((48:Int) + (IntKind.wrap .u8 (Int.tmod x2 (10:Int))))) :: ([]:LI))) x1 (IntKind.wrap .u32 (Int.tdiv x2 (10:Int))) (IntKind.wrap .i64 (x3 + (1:Int)))) else none) else (some (x0,x1)))
def zf.l0:Nat→LI→LI→Int→Int→Option (LI × LI)
 | 0,_,_,_,_=>none
 | k + 1,x0,x1,x2,x3=>zf.b0 (zf.l0 k) x0 x1 x2 x3
noncomputable def zf.V0 x0 x1 x2 x3:=lim fun k=>zf.l0 k x0 x1 x2 x3
theorem zf.v0 x0 x1 x2 x3 {y} (h:zf.b0 zf.V0 x0 x1 x2 x3=some y):zf.V0 x0 x1 x2 x3=some y:=Le.v (.succ (by unfold zf.l0 zf.b0;repeat (first | with_reducible first | exact Le.const | refine Le.bind ?_ fun _=>?_ | refine Le.cond ?_ ?_ | refine Le.elim (fun _=>?_) fun _=>?_ | exact Le.of rfl))) h
def zf.L0 (k:Nat):LFn:=⟨zf.h0,zf.o0,fun x=>zf.l0 k x.1 x.2.1 x.2.2.1 x.2.2.2⟩
theorem zf.r0 (k:Nat) (x:Tup (sigTys zf.h0)):roundK T0 (zf.env k) 57 114 [] zf.C (loopOf Tryz.f138 2) 2 zf.h0 zf.o0 (zf.L0 k).f x=(zf.L0 (k + 1)).f x:=by kernel_rfl
theorem zf.s0 (k:Nat):LoopSound P0 G0 57 114 (sigPins zf.hd) (zf.L0 k) (loopOf Tryz.f138 2):=loop_rounds (T:=T0) hm0 hT0 (env:=fun k=>(zf.env k)) (nh:=114) (pn:=sigPins zf.hd) (L:=fun k=>[]) (C:=zf.C) (by kernel_rfl) (hd:=zf.h0) (os:=zf.o0) (by kernel_rfl) (by kernel_rfl) (by kernel_rfl) (g:=fun k=>(zf.L0 k).f) (fun k=>loops_in zf.d trivial) (fun _=>rfl) (fun k x=>zf.r0 k x) k
def zf.b1 (c0:LI→Int→Option ((Int × Bool) ⊕ (LI × Int × Bool))) (c1:LI→LI→Int→Int→Option (LI × LI)) (c2:LI→LI→Option LI) (x0:LI) (x1:LI):Option LI:=(bif (decide ((((List.length x0):Nat):Int) > (0:Int))) then (Option.bind (c0 x0 (rdL (0:Int) gv0 (9:Int))) fun y4=>(Sum.elim (fun y5=>(Option.bind (c1 x1 (([]:LI),(y5.1,(0:Int))).1 (([]:LI),(y5.1,(0:Int))).2.1 (([]:LI),(y5.1,(0:Int))).2.2) fun y6=>(c2 y6.2 y6.1))) (fun y5=>(Option.bind (c1 x1 (y5.1,(y5.2.1,(0:Int))).1 (y5.1,(y5.2.1,(0:Int))).2.1 (y5.1,(y5.2.1,(0:Int))).2.2) fun y6=>(c2 y6.2 y6.1))) y4)) else (some x1))
def zf.l1:Nat→LI→LI→Option LI
 | 0,_,_=>none
 | k + 1,x0,x1=>zf.b1 (zS.f k) (zf.l0 k) (zf.l1 k) x0 x1
noncomputable def zf.V1 x0 x1:=lim fun k=>zf.l1 k x0 x1
theorem zf.v1 x0 x1 {y} (h:zf.b1 zS.V zf.V0 zf.V1 x0 x1=some y):zf.V1 x0 x1=some y:=Le.v (.succ (by unfold zf.l1 zf.b1;repeat (first | with_reducible first | exact Le.const | refine Le.bind ?_ fun _=>?_ | refine Le.cond ?_ ?_ | refine Le.elim (fun _=>?_) fun _=>?_ | exact Le.of rfl))) h
def zf.L1 (k:Nat):LFn:=⟨zf.h1,zf.o1,fun x=>zf.l1 k x.1 x.2⟩
theorem zf.r1 (k:Nat) (x:Tup (sigTys zf.h1)):roundK T0 (zf.env k) 57 114 [⟨2,zf.L0 k⟩] zf.C (loopOf Tryz.f138 0) 0 zf.h1 zf.o1 (zf.L1 k).f x=(zf.L1 (k + 1)).f x:=by kernel_rfl
theorem zf.s1 (k:Nat):LoopSound P0 G0 57 114 (sigPins zf.hd) (zf.L1 k) (loopOf Tryz.f138 0):=loop_rounds (T:=T0) hm0 hT0 (env:=fun k=>(zf.env k)) (nh:=114) (pn:=sigPins zf.hd) (L:=fun k=>[⟨2,zf.L0 k⟩]) (C:=zf.C) (by kernel_rfl) (hd:=zf.h1) (os:=zf.o1) (by kernel_rfl) (by kernel_rfl) (by kernel_rfl) (g:=fun k=>(zf.L1 k).f) (fun k=>loops_in zf.d ⟨zf.s0 k,trivial⟩) (fun _=>rfl) (fun k x=>zf.r1 k x) k
def zf.b2 (c0:LI→Option LI) (x0:LI):Option LI:=(bif (decide ((((List.length x0):Nat):Int) > (0:Int))) then (bif (decide (((0:Int) ≤ (IntKind.wrap .i64 ((((List.length x0):Nat):Int) - (1:Int))))∧((IntKind.wrap .i64 ((((List.length x0):Nat):Int) - (1:Int))) < (((List.length x0):Nat):Int)))) then (bif ((rdL (0:Int) x0 (IntKind.wrap .i64 ((((List.length x0):Nat):Int) - (1:Int)))) == (48:Int)) then (bif (decide (((0:Int) ≤ (IntKind.wrap .i64 ((((List.length x0):Nat):Int) - (1:Int))))∧((IntKind.wrap .i64 ((((List.length x0):Nat):Int) - (1:Int))) ≤ (((List.length x0):Nat):Int)))) then (c0 (List.take (Int.toNat ((IntKind.wrap .i64 ((((List.length x0):Nat):Int) - (1:Int))) - (0:Int))) x0)) else none) else (some x0)) else none) else (some x0))
def zf.l2:Nat→LI→Option LI
 | 0,_=>none
 | k + 1,x0=>zf.b2 (zf.l2 k) x0
noncomputable def zf.V2 x0:=lim fun k=>zf.l2 k x0
theorem zf.v2 x0 {y} (h:zf.b2 zf.V2 x0=some y):zf.V2 x0=some y:=Le.v (.succ (by unfold zf.l2 zf.b2;repeat (first | with_reducible first | exact Le.const | refine Le.bind ?_ fun _=>?_ | refine Le.cond ?_ ?_ | refine Le.elim (fun _=>?_) fun _=>?_ | exact Le.of rfl))) h
def zf.L2 (k:Nat):LFn:=⟨zf.h2,zf.o2,fun x=>zf.l2 k x⟩
theorem zf.r2 (k:Nat) (x:Tup (sigTys zf.h2)):roundK T0 (zf.env k) 57 114 [] zf.C (loopOf Tryz.f138 4) 4 zf.h2 zf.o2 (zf.L2 k).f x=(zf.L2 (k + 1)).f x:=by kernel_rfl
theorem zf.s2 (k:Nat):LoopSound P0 G0 57 114 (sigPins zf.hd) (zf.L2 k) (loopOf Tryz.f138 4):=loop_rounds (T:=T0) hm0 hT0 (env:=fun k=>(zf.env k)) (nh:=114) (pn:=sigPins zf.hd) (L:=fun k=>[]) (C:=zf.C) (by kernel_rfl) (hd:=zf.h2) (os:=zf.o2) (by kernel_rfl) (by kernel_rfl) (by kernel_rfl) (g:=fun k=>(zf.L2 k).f) (fun k=>loops_in zf.d trivial) (fun _=>rfl) (fun k x=>zf.r2 k x) k
def zf.b (c0:LI→Option LI) (c1:LI→LI→Option LI) (c2:LI→Option LI) (a0:LI):Option (ByteArray):=(Option.bind (c0 a0) fun y2=>(Option.bind (c1 y2 ([]:LI)) fun y3=>(Option.bind (c2 y3) fun y4=>(bif ((((List.length y4):Nat):Int) == (0:Int)) then (some (ByteArray.mk #[48])) else (some (bytesA (List.reverse y4)))))))
def zf.f (k:Nat) a0:=zf.b (yo.f k) (zf.l1 k) (zf.l2 k) a0
noncomputable def zf.V a0:=lim fun k=>zf.f k a0
theorem zf.v a0 {y} (h:zf.b yo.V zf.V1 zf.V2 a0=some y):zf.V a0=some y:=Le.v (by unfold zf.f zf.b;repeat (first | with_reducible first | exact Le.const | refine Le.bind ?_ fun _=>?_ | refine Le.cond ?_ ?_ | refine Le.elim (fun _=>?_) fun _=>?_ | exact Le.of rfl)) h
theorem zf.e (k:Nat) (x:Tup (sigTys zf.hd)):fnK T0 (zf.env k) [⟨2,zf.L0 k⟩,⟨0,zf.L1 k⟩,⟨4,zf.L2 k⟩] zf.C Tryz.f138 1 114 zf.hd zf.os x=zf.f k x:=by kernel_rfl
def zf.fn (k:Nat):Kn P0 G0:=⟨138,1,114,zf.hd,1,zf.os,fun x=>zf.f k x,contract (T:=T0) (fn:=Tryz.f138) hm0 hT0 (by kernel_rfl) (by kernel_rfl) (L:=[⟨2,zf.L0 k⟩,⟨0,zf.L1 k⟩,⟨4,zf.L2 k⟩]) (C:=zf.C) (by kernel_rfl) (by decide) rfl (by kernel_rfl) (loops_fn zf.d ⟨zf.s0 k,zf.s1 k,zf.s2 k,trivial⟩) (zf.e k),none⟩
def yK.hd:Sig:=[⟨false,0,(.imm api_Int)⟩]
def yK.os:List Sig:=[[⟨false,0,(.imm .str)⟩]]
def yK.C:List CutAt:=[]
def yK.env (k:Nat):List (Kn P0 G0):=[yy.fn k,zf.fn k]
theorem yK.d:distN (loopIds (Tryz.f137.body.getD .skip) 0)=true:=by kernel_rfl
def yK.b (c0:WH→Option (Bool × LI)) (c1:LI→Option (ByteArray)) (a0:WH):Option (ByteArray):=(Option.bind (c0 a0) fun y2=>(bif y2.1 then (Option.bind (c1 y2.2) fun y3=>(bif (decide (((ByteArray.size (ByteArray.mk #[45])) + (ByteArray.size y3)) ≤ 68719476736)) then (some ((ByteArray.mk #[45]) ++ y3)) else none)) else (Option.bind (c1 y2.2) fun y3=>(some y3))))
def yK.f (k:Nat) a0:=yK.b (yy.f k) (zf.f k) a0
noncomputable def yK.V a0:=lim fun k=>yK.f k a0
theorem yK.v a0 {y} (h:yK.b yy.V zf.V a0=some y):yK.V a0=some y:=Le.v (by unfold yK.f yK.b;repeat (first | with_reducible first | exact Le.const | refine Le.bind ?_ fun _=>?_ | refine Le.cond ?_ ?_ | refine Le.elim (fun _=>?_) fun _=>?_ | exact Le.of rfl)) h
theorem yK.e (k:Nat) (x:Tup (sigTys yK.hd)):fnK T0 (yK.env k) [] yK.C Tryz.f137 1 28 yK.hd yK.os x=yK.f k x:=by kernel_rfl
def yK.fn (k:Nat):Kn P0 G0:=⟨137,1,28,yK.hd,1,yK.os,fun x=>yK.f k x,contract (T:=T0) (fn:=Tryz.f137) hm0 hT0 (by kernel_rfl) (by kernel_rfl) (L:=[]) (C:=yK.C) (by kernel_rfl) (by decide) rfl (by kernel_rfl) (loops_fn yK.d trivial) (yK.e k),none⟩
def ym.hd:Sig:=[⟨false,0,(.imm api_Rat)⟩]
def ym.os:List Sig:=[[⟨false,0,(.imm .str)⟩]]
def ym.C:List CutAt:=[]
def ym.env (k:Nat):List (Kn P0 G0):=[yu.fn k,yK.fn k,zf.fn k]
theorem ym.d:distN (loopIds (Tryz.f100.body.getD .skip) 0)=true:=by kernel_rfl
def ym.b (c0:RA→Option Bool) (c1:WH→Option (ByteArray)) (c2:LI→Option (ByteArray)) (a0:RA):Option (ByteArray):=(Option.bind (c0 a0) fun y2=>(bif (!y2) then (some (ByteArray.mk #[])) else (Option.bind (c1 a0.1) fun y3=>(Option.bind (c2 a0.2.1) fun y4=>(bif (!(strEq y4 (ByteArray.mk #[49]))) then (bif (decide (((ByteArray.size (ByteArray.mk #[47])) + (ByteArray.size y4)) ≤ 68719476736)) then (bif (decide (((ByteArray.size y3) + (ByteArray.size ((ByteArray.mk #[47]) ++ y4))) ≤ 68719476736)) then (some (y3 ++ ((ByteArray.mk #[47]) ++ y4))) else none) else none) else (some y3))))))
def ym.f (k:Nat) a0:=ym.b (yu.f k) (yK.f k) (zf.f k) a0
noncomputable def ym.V a0:=lim fun k=>ym.f k a0
theorem ym.v a0 {y} (h:ym.b yu.V yK.V zf.V a0=some y):ym.V a0=some y:=Le.v (by unfold ym.f ym.b;repeat (first | with_reducible first | exact Le.const | refine Le.bind ?_ fun _=>?_ | refine Le.cond ?_ ?_ | refine Le.elim (fun _=>?_) fun _=>?_ | exact Le.of rfl)) h
theorem ym.e (k:Nat) (x:Tup (sigTys ym.hd)):fnK T0 (ym.env k) [] ym.C Tryz.f100 1 42 ym.hd ym.os x=ym.f k x:=by kernel_rfl
def ym.fn (k:Nat):Kn P0 G0:=⟨100,1,42,ym.hd,1,ym.os,fun x=>ym.f k x,contract (T:=T0) (fn:=Tryz.f100) hm0 hT0 (by kernel_rfl) (by kernel_rfl) (L:=[]) (C:=ym.C) (by kernel_rfl) (by decide) rfl (by kernel_rfl) (loops_fn ym.d trivial) (ym.e k),none⟩
def zl.hd:Sig:=[⟨true,108,(.agg simple_maker (.acons (.own 106 false 42 api_Term) (.acons (.mp 107 simple_face (.int .i64)) .anil)))⟩,⟨false,0,(.ptr 108 [] simple_maker)⟩,⟨false,1,(.imm api_Term)⟩]
def zl.os:List Sig:=[[⟨true,108,(.agg simple_maker (.acons (.own 106 false 42 api_Term) (.acons (.mp 107 simple_face (.int .i64)) .anil)))⟩,⟨false,0,(.imm (.int .i64))⟩]]
def zl.C:List CutAt:=[]
def zl.env (k:Nat):List (Kn P0 G0):=[ym.fn k]
theorem zl.d:distN (loopIds (Tryz.f59.body.getD .skip) 0)=true:=by kernel_rfl
def zl.b (c0:RA→Option (ByteArray)) (a0:CO) (a1:MP) (a2:TE):Option (CO × MP × Int):=(Option.bind (c0 a2.2.2.2.2.1) fun y4=>(bif (!(hasM simple_face (.int .i64) (a2.1,(a2.2.1,(a2.2.2.1,(a2.2.2.2.1,(y4,()))))) a1)) then (bif (decide (((List.length a0) + (List.length (a2 :: ([]:CO)))) ≤ 68719476736)) then (some ((a0 ++ (a2 :: ([]:CO))),((setM simple_face (.int .i64) (a2.1,(a2.2.1,(a2.2.2.1,(a2.2.2.2.1,(y4,()))))) (((List.length a0):Nat):Int) a1),(((List.length a0):Nat):Int)))) else none) else (some (a0,(a1,(lookM simple_face (.int .i64) (a2.1,(a2.2.1,(a2.2.2.1,(a2.2.2.2.1,(y4,()))))) a1))))))
def zl.f (k:Nat) a0 a1 a2:=zl.b (ym.f k) a0 a1 a2
noncomputable def zl.V a0 a1 a2:=lim fun k=>zl.f k a0 a1 a2
theorem zl.v a0 a1 a2 {y} (h:zl.b ym.V a0 a1 a2=some y):zl.V a0 a1 a2=some y:=Le.v (by unfold zl.f zl.b;repeat (first | with_reducible first | exact Le.const | refine Le.bind ?_ fun _=>?_ | refine Le.cond ?_ ?_ | refine Le.elim (fun _=>?_) fun _=>?_ | exact Le.of rfl)) h
theorem zl.e (k:Nat) (x:Tup (sigTys zl.hd)):fnK T0 (zl.env k) [] zl.C Tryz.f59 2 109 zl.hd zl.os x=zl.f k x.1 x.2.1 x.2.2:=by kernel_rfl
def zl.fn (k:Nat):Kn P0 G0:=⟨59,2,109,zl.hd,1,zl.os,fun x=>zl.f k x.1 x.2.1 x.2.2,contract (T:=T0) (fn:=Tryz.f59) hm0 hT0 (by kernel_rfl) (by kernel_rfl) (L:=[]) (C:=zl.C) (by kernel_rfl) (by decide) rfl (by kernel_rfl) (loops_fn zl.d trivial) (zl.e k),none⟩
def zk.hd:Sig:=[⟨true,24,(.agg simple_maker (.acons (.own 22 false 42 api_Term) (.acons (.mp 23 simple_face (.int .i64)) .anil)))⟩,⟨false,0,(.ptr 24 [] simple_maker)⟩,⟨false,1,(.imm api_Rat)⟩]
def zk.os:List Sig:=[[⟨true,24,(.agg simple_maker (.acons (.own 22 false 42 api_Term) (.acons (.mp 23 simple_face (.int .i64)) .anil)))⟩,⟨false,0,(.imm (.int .i64))⟩]]
def zk.C:List CutAt:=[]
def zk.env (k:Nat):List (Kn P0 G0):=[xj.fn k,zl.fn k]
theorem zk.d:distN (loopIds (Tryz.f52.body.getD .skip) 0)=true:=by kernel_rfl
def zk.b (c0:RA→Option (Bool × LI × LI)) (c1:CO→MP→TE→Option (CO × MP × Int)) (a0:CO) (a1:MP) (a2:RA):Option (CO × MP × Int):=(Option.bind (c0 a2) fun y4=>(Option.bind (c0 ((y4.1,(y4.2.1,())),(y4.2.2,()))) fun y5=>(Option.bind (c1 a0 (a1,((1:Int),((0:Int),((0:Int),((0:Int),(((y5.1,(y5.2.1,())),(y5.2.2,())),())))))).1 (a1,((1:Int),((0:Int),((0:Int),((0:Int),(((y5.1,(y5.2.1,())),(y5.2.2,())),())))))).2) fun y6=>(some (y6.1,(y6.2.1,y6.2.2))))))
def zk.f (k:Nat) a0 a1 a2:=zk.b (xj.f k) (zl.f k) a0 a1 a2
noncomputable def zk.V a0 a1 a2:=lim fun k=>zk.f k a0 a1 a2
theorem zk.v a0 a1 a2 {y} (h:zk.b xj.V zl.V a0 a1 a2=some y):zk.V a0 a1 a2=some y:=Le.v (by unfold zk.f zk.b;repeat (first | with_reducible first | exact Le.const | refine Le.bind ?_ fun _=>?_ | refine Le.cond ?_ ?_ | refine Le.elim (fun _=>?_) fun _=>?_ | exact Le.of rfl)) h
theorem zk.e (k:Nat) (x:Tup (sigTys zk.hd)):fnK T0 (zk.env k) [] zk.C Tryz.f52 2 25 zk.hd zk.os x=zk.f k x.1 x.2.1 x.2.2:=by kernel_rfl
def zk.fn (k:Nat):Kn P0 G0:=⟨52,2,25,zk.hd,1,zk.os,fun x=>zk.f k x.1 x.2.1 x.2.2,contract (T:=T0) (fn:=Tryz.f52) hm0 hT0 (by kernel_rfl) (by kernel_rfl) (L:=[]) (C:=zk.C) (by kernel_rfl) (by decide) rfl (by kernel_rfl) (loops_fn zk.d trivial) (zk.e k),none⟩
def zD.hd:Sig:=[⟨true,48,(.agg simple_maker (.acons (.own 46 false 42 api_Term) (.acons (.mp 47 simple_face (.int .i64)) .anil)))⟩,⟨false,0,(.ptr 48 [] simple_maker)⟩,⟨false,1,(.imm (.int .i64))⟩]
def zD.os:List Sig:=[[⟨true,48,(.agg simple_maker (.acons (.own 46 false 42 api_Term) (.acons (.mp 47 simple_face (.int .i64)) .anil)))⟩,⟨false,0,(.imm api_Rat)⟩,⟨false,1,(.imm .bool)⟩]]
def zD.C:List CutAt:=[]
def zD.env:List (Kn P0 G0):=[]
theorem zD.d:distN (loopIds (Tryz.f96.body.getD .skip) 0)=true:=by kernel_rfl
def zD.f (a0:CO) (a1:MP) (a2:Int):Option (CO × MP × RA × Bool):=(bif (decide (((0:Int) ≤ a2)∧(a2 < (((List.length a0):Nat):Int)))) then (bif (decide (((0:Int) ≤ a2)∧(a2 < (((List.length a0):Nat):Int)))) then (some (a0,(a1,((rdL (Ty.zero api_Term) a0 a2).2.2.2.2.1,((rdL (Ty.zero api_Term) a0 a2).1 == (1:Int)))))) else none) else none)
theorem zD.e (x:Tup (sigTys zD.hd)):fnK T0 zD.env [] zD.C Tryz.f96 2 49 zD.hd zD.os x=zD.f x.1 x.2.1 x.2.2:=by kernel_rfl
def zD.fn:Kn P0 G0:=⟨96,2,49,zD.hd,2,zD.os,fun x=>zD.f x.1 x.2.1 x.2.2,contract (T:=T0) (fn:=Tryz.f96) hm0 hT0 (by kernel_rfl) (by kernel_rfl) (L:=[]) (C:=zD.C) (by kernel_rfl) (by decide) rfl (by kernel_rfl) (loops_fn zD.d trivial) (zD.e),none⟩
def yc.hd:Sig:=[⟨true,80,(.agg simple_maker (.acons (.own 78 false 42 api_Term) (.acons (.mp 79 simple_face (.int .i64)) .anil)))⟩,⟨false,0,(.ptr 80 [] simple_maker)⟩,⟨false,1,(.imm (.int .i64))⟩]
def yc.os:List Sig:=[[⟨true,80,(.agg simple_maker (.acons (.own 78 false 42 api_Term) (.acons (.mp 79 simple_face (.int .i64)) .anil)))⟩,⟨false,0,(.imm (.int .i64))⟩]]
def yc.C:List CutAt:=[]
def yc.env (k:Nat):List (Kn P0 G0):=[zD.fn,xj.fn k,zk.fn k,zl.fn k]
theorem yc.d:distN (loopIds (Tryz.f53.body.getD .skip) 0)=true:=by kernel_rfl
def yc.b (c0:RA→Option (Bool × LI × LI)) (c1:CO→MP→RA→Option (CO × MP × Int)) (c2:CO→MP→TE→Option (CO × MP × Int)) (a0:CO) (a1:MP) (a2:Int):Option (CO × MP × Int):=(Option.bind (zD.f a0 (a1,a2).1 (a1,a2).2) fun y4=>(bif y4.2.2.2 then (Option.bind (c0 y4.2.2.1) fun y5=>(Option.bind (c1 y4.1 (y4.2.1,((y5.1,(y5.2.1,())),(y5.2.2,()))).1 (y4.2.1,((y5.1,(y5.2.1,())),(y5.2.2,()))).2) fun y6=>(some (y6.1,(y6.2.1,y6.2.2))))) else (bif (decide (((0:Int) ≤ a2)∧(a2 < (((List.length y4.1):Nat):Int)))) then (bif ((rdL (Ty.zero api_Term) y4.1 a2).1 == (7:Int)) then (bif (decide (((0:Int) ≤ a2)∧(a2 < (((List.length y4.1):Nat):Int)))) then (some (y4.1,(y4.2.1,(rdL (Ty.zero api_Term) y4.1 a2).2.1))) else none) else (Option.bind (c2 y4.1 (y4.2.1,((7:Int),(a2,((0:Int),((0:Int),(((false,(([]:LI),())),(([]:LI),())),())))))).1 (y4.2.1,((7:Int),(a2,((0:Int),((0:Int),(((false,(([]:LI),())),(([]:LI),())),())))))).2) fun y5=>(some (y5.1,(y5.2.1,y5.2.2))))) else none)))
def yc.f (k:Nat) a0 a1 a2:=yc.b (xj.f k) (zk.f k) (zl.f k) a0 a1 a2
noncomputable def yc.V a0 a1 a2:=lim fun k=>yc.f k a0 a1 a2
theorem yc.v a0 a1 a2 {y} (h:yc.b xj.V zk.V zl.V a0 a1 a2=some y):yc.V a0 a1 a2=some y:=Le.v (by unfold yc.f yc.b;repeat (first | with_reducible first | exact Le.const | refine Le.bind ?_ fun _=>?_ | refine Le.cond ?_ ?_ | refine Le.elim (fun _=>?_) fun _=>?_ | exact Le.of rfl)) h
theorem yc.e (k:Nat) (x:Tup (sigTys yc.hd)):fnK T0 (yc.env k) [] yc.C Tryz.f53 2 81 yc.hd yc.os x=yc.f k x.1 x.2.1 x.2.2:=by kernel_rfl
def yc.fn (k:Nat):Kn P0 G0:=⟨53,2,81,yc.hd,1,yc.os,fun x=>yc.f k x.1 x.2.1 x.2.2,contract (T:=T0) (fn:=Tryz.f53) hm0 hT0 (by kernel_rfl) (by kernel_rfl) (L:=[]) (C:=yc.C) (by kernel_rfl) (by decide) rfl (by kernel_rfl) (loops_fn yc.d trivial) (yc.e k),none⟩
def yL.hd:Sig:=[⟨false,0,(.imm api_Int)⟩,⟨false,1,(.imm api_Int)⟩]
def yL.os:List Sig:=[[⟨false,0,(.agg api_Int (.acons (.imm .bool) (.acons (.own 15 false 111 (.int .u32)) .anil)))⟩]]
def yL.C:List CutAt:=[]
def yL.env (k:Nat):List (Kn P0 G0):=[zA.fn k,yw.fn k]
theorem yL.d:distN (loopIds (Tryz.f118.body.getD .skip) 0)=true:=by kernel_rfl
def yL.b (c0:LI→LI→Option LI) (c1:Bool→LI→Option (Bool × LI)) (a0:WH) (a1:WH):Option (Bool × LI):=(Option.bind (c0 a0.2.1 a1.2.1) fun y3=>(Option.bind (c1 (!(a0.1 == a1.1)) y3) fun y4=>(some (y4.1,y4.2))))
def yL.f (k:Nat) a0 a1:=yL.b (zA.f k) (yw.f k) a0 a1
noncomputable def yL.V a0 a1:=lim fun k=>yL.f k a0 a1
theorem yL.v a0 a1 {y} (h:yL.b zA.V yw.V a0 a1=some y):yL.V a0 a1=some y:=Le.v (by unfold yL.f yL.b;repeat (first | with_reducible first | exact Le.const | refine Le.bind ?_ fun _=>?_ | refine Le.cond ?_ ?_ | refine Le.elim (fun _=>?_) fun _=>?_ | exact Le.of rfl)) h
theorem yL.e (k:Nat) (x:Tup (sigTys yL.hd)):fnK T0 (yL.env k) [] yL.C Tryz.f118 2 32 yL.hd yL.os x=yL.f k x.1 x.2:=by kernel_rfl
def yL.fn (k:Nat):Kn P0 G0:=⟨118,2,32,yL.hd,1,yL.os,fun x=>yL.f k x.1 x.2,contract (T:=T0) (fn:=Tryz.f118) hm0 hT0 (by kernel_rfl) (by kernel_rfl) (L:=[]) (C:=yL.C) (by kernel_rfl) (by decide) rfl (by kernel_rfl) (loops_fn yL.d trivial) (yL.e k),none⟩
def yP.hd:Sig:=[⟨false,0,(.imm api_Rat)⟩,⟨false,1,(.imm api_Rat)⟩]
def yP.os:List Sig:=[[⟨false,0,(.agg api_Int (.acons (.imm .bool) (.acons (.own 10 false 111 (.int .u32)) .anil)))⟩]]
def yP.C:List CutAt:=[]
def yP.env (k:Nat):List (Kn P0 G0):=[yL.fn k]
theorem yP.d:distN (loopIds (Tryz.f116.body.getD .skip) 0)=true:=by kernel_rfl
def yP.b (c0:WH→WH→Option (Bool × LI)) (a0:RA) (a1:RA):Option (Bool × LI):=(Option.bind (c0 a0.1 (false,(a1.2.1,()))) fun y3=>(some (y3.1,y3.2)))
def yP.f (k:Nat) a0 a1:=yP.b (yL.f k) a0 a1
noncomputable def yP.V a0 a1:=lim fun k=>yP.f k a0 a1
theorem yP.v a0 a1 {y} (h:yP.b yL.V a0 a1=some y):yP.V a0 a1=some y:=Le.v (by unfold yP.f yP.b;repeat (first | with_reducible first | exact Le.const | refine Le.bind ?_ fun _=>?_ | refine Le.cond ?_ ?_ | refine Le.elim (fun _=>?_) fun _=>?_ | exact Le.of rfl)) h
theorem yP.e (k:Nat) (x:Tup (sigTys yP.hd)):fnK T0 (yP.env k) [] yP.C Tryz.f116 2 22 yP.hd yP.os x=yP.f k x.1 x.2:=by kernel_rfl
def yP.fn (k:Nat):Kn P0 G0:=⟨116,2,22,yP.hd,1,yP.os,fun x=>yP.f k x.1 x.2,contract (T:=T0) (fn:=Tryz.f116) hm0 hT0 (by kernel_rfl) (by kernel_rfl) (L:=[]) (C:=yP.C) (by kernel_rfl) (by decide) rfl (by kernel_rfl) (loops_fn yP.d trivial) (yP.e k),none⟩
def yS.hd:Sig:=[⟨false,0,(.imm (.int .u32))⟩,⟨false,1,(.imm (.int .u32))⟩,⟨false,2,(.imm (.int .u32))⟩]
def yS.os:List Sig:=[[⟨false,0,(.imm (.int .u32))⟩,⟨false,1,(.imm (.int .u32))⟩]]
def yS.C:List CutAt:=[]
def yS.env:List (Kn P0 G0):=[]
theorem yS.d:distN (loopIds (Tryz.f175.body.getD .skip) 0)=true:=by kernel_rfl
def yS.f (a0:Int) (a1:Int) (a2:Int):Option (Int × Int):=(some ((IntKind.wrap .u32 (IntKind.wrap .u64 ((IntKind.wrap .u64 ((IntKind.wrap .u64 a0) + (IntKind.wrap .u64 a1))) + (IntKind.wrap .u64 a2)))),(IntKind.wrap .u32 (shrI .u64 (IntKind.wrap .u64 ((IntKind.wrap .u64 ((IntKind.wrap .u64 a0) + (IntKind.wrap .u64 a1))) + (IntKind.wrap .u64 a2))) (32:Int)))))
theorem yS.e (x:Tup (sigTys yS.hd)):fnK T0 yS.env [] yS.C Tryz.f175 3 44 yS.hd yS.os x=yS.f x.1 x.2.1 x.2.2:=by kernel_rfl
def yS.fn:Kn P0 G0:=⟨175,3,44,yS.hd,2,yS.os,fun x=>yS.f x.1 x.2.1 x.2.2,contract (T:=T0) (fn:=Tryz.f175) hm0 hT0 (by kernel_rfl) (by kernel_rfl) (L:=[]) (C:=yS.C) (by kernel_rfl) (by decide) rfl (by kernel_rfl) (loops_fn yS.d trivial) (yS.e),none⟩
def yn.hd:Sig:=[⟨false,0,(.imm (.list (.int .u32)))⟩,⟨false,1,(.imm (.list (.int .u32)))⟩]
def yn.os:List Sig:=[[⟨false,0,(.own 39 false 111 (.int .u32))⟩]]
def yn.h0:Sig:=[⟨false,0,(.imm (.list (.int .u32)))⟩,⟨false,1,(.imm (.list (.int .u32)))⟩,⟨false,5,(.own 14 false 111 (.int .u32))⟩,⟨false,6,(.imm (.int .u32))⟩,⟨false,19,(.imm (.int .i64))⟩,⟨false,20,(.imm (.int .i64))⟩]
def yn.o0:Outs:=[((.exit 0),[⟨false,5,(.own 14 false 111 (.int .u32))⟩])]
def yn.C:List CutAt:=[]
def yn.env (k:Nat):List (Kn P0 G0):=[zT.fn k,wa.fn,yS.fn,yo.fn k]
theorem yn.d:distN (loopIds (Tryz.f154.body.getD .skip) 0)=true:=by kernel_rfl
def yn.b0 (c0:LI→LI→LI→Int→Int→Int→Option LI) (x0:LI) (x1:LI) (x2:LI) (x3:Int) (x4:Int) (x5:Int):Option LI:=(bif (decide (x5 < x4)) then (Option.bind (wa.f x0 x5) fun y8=>(Option.bind (wa.f x1 x5) fun y9=>(Option.bind (yS.f y8 (y9,x3).1 (y9,x3).2) fun y10=>(bif (decide (((0:Int) ≤ x5)∧(x5 < (((List.length x2):Nat):Int)))) then (c0 x0 x1 (List.set x2 (Int.toNat x5) y10.1) y10.2 x4 (IntKind.wrap .i64 (x5 + (1:Int)))) else none)))) else (some x2))
def yn.l0:Nat→LI→LI→LI→Int→Int→Int→Option LI
 | 0,_,_,_,_,_,_=>none
 | k + 1,x0,x1,x2,x3,x4,x5=>yn.b0 (yn.l0 k) x0 x1 x2 x3 x4 x5
noncomputable def yn.V0 x0 x1 x2 x3 x4 x5:=lim fun k=>yn.l0 k x0 x1 x2 x3 x4 x5
theorem yn.v0 x0 x1 x2 x3 x4 x5 {y} (h:yn.b0 yn.V0 x0 x1 x2 x3 x4 x5=some y):yn.V0 x0 x1 x2 x3 x4 x5=some y:=Le.v (.succ (by unfold yn.l0 yn.b0;repeat (first | with_reducible first | exact Le.const | refine Le.bind ?_ fun _=>?_ | refine Le.cond ?_ ?_ | refine Le.elim (fun _=>?_) fun _=>?_ | exact Le.of rfl))) h
def yn.L0 (k:Nat):LFn:=⟨yn.h0,yn.o0,fun x=>yn.l0 k x.1 x.2.1 x.2.2.1 x.2.2.2.1 x.2.2.2.2.1 x.2.2.2.2.2⟩
theorem yn.r0 (k:Nat) (x:Tup (sigTys yn.h0)):roundK T0 (yn.env k) 40 80 [] yn.C (loopOf Tryz.f154 0) 0 yn.h0 yn.o0 (yn.L0 k).f x=(yn.L0 (k + 1)).f x:=by kernel_rfl
theorem yn.s0 (k:Nat):LoopSound P0 G0 40 80 (sigPins yn.hd) (yn.L0 k) (loopOf Tryz.f154 0):=loop_rounds (T:=T0) hm0 hT0 (env:=fun k=>(yn.env k)) (nh:=80) (pn:=sigPins yn.hd) (L:=fun k=>[]) (C:=yn.C) (by kernel_rfl) (hd:=yn.h0) (os:=yn.o0) (by kernel_rfl) (by kernel_rfl) (by kernel_rfl) (g:=fun k=>(yn.L0 k).f) (fun k=>loops_in yn.d trivial) (fun _=>rfl) (fun k x=>yn.r0 k x) k
def yn.b (c0:LI→Option Int) (c1:LI→LI→LI→Int→Int→Int→Option LI) (c2:LI→Option LI) (a0:LI) (a1:LI):Option LI:=(Option.bind (c0 a0) fun y3=>(Option.bind (c0 a1) fun y4=>(bif (decide (((0:Int) ≤ (IntKind.wrap .i64 ((mxI y3 y4) + (1:Int))))∧(((IntKind.wrap .i64 ((mxI y3 y4) + (1:Int))) ≤ (IntKind.wrap .i64 ((mxI y3 y4) + (1:Int))))∧((IntKind.wrap .i64 ((mxI y3 y4) + (1:Int))) ≤ ((68719476736:Nat):Int))))) then (Option.bind (c1 a0 (a1,((copyL a0 (List.replicate (Int.toNat (IntKind.wrap .i64 ((mxI y3 y4) + (1:Int)))) (0:Int))),((0:Int),((((List.length (copyL a0 (List.replicate (Int.toNat (IntKind.wrap .i64 ((mxI y3 y4) + (1:Int)))) (0:Int)))):Nat):Int),(0:Int))))).1 (a1,((copyL a0 (List.replicate (Int.toNat (IntKind.wrap .i64 ((mxI y3 y4) + (1:Int)))) (0:Int))),((0:Int),((((List.length (copyL a0 (List.replicate (Int.toNat (IntKind.wrap .i64 ((mxI y3 y4) + (1:Int)))) (0:Int)))):Nat):Int),(0:Int))))).2.1 (a1,((copyL a0 (List.replicate (Int.toNat (IntKind.wrap .i64 ((mxI y3 y4) + (1:Int)))) (0:Int))),((0:Int),((((List.length (copyL a0 (List.replicate (Int.toNat (IntKind.wrap .i64 ((mxI y3 y4) + (1:Int)))) (0:Int)))):Nat):Int),(0:Int))))).2.2.1 (a1,((copyL a0 (List.replicate (Int.toNat (IntKind.wrap .i64 ((mxI y3 y4) + (1:Int)))) (0:Int))),((0:Int),((((List.length (copyL a0 (List.replicate (Int.toNat (IntKind.wrap .i64 ((mxI y3 y4) + (1:Int)))) (0:Int)))):Nat):Int),(0:Int))))).2.2.2.1 (a1,((copyL a0 (List.replicate (Int.toNat (IntKind.wrap .i64 ((mxI y3 y4) + (1:Int)))) (0:Int))),((0:Int),((((List.length (copyL a0 (List.replicate (Int.toNat (IntKind.wrap .i64 ((mxI y3 y4) + (1:Int)))) (0:Int)))):Nat):Int),(0:Int))))).2.2.2.2) fun y5=>(Option.bind (c2 y5) fun y6=>(some y6))) else none)))
def yn.f (k:Nat) a0 a1:=yn.b (zT.f k) (yn.l0 k) (yo.f k) a0 a1
noncomputable def yn.V a0 a1:=lim fun k=>yn.f k a0 a1
theorem yn.v a0 a1 {y} (h:yn.b zT.V yn.V0 yo.V a0 a1=some y):yn.V a0 a1=some y:=Le.v (by unfold yn.f yn.b;repeat (first | with_reducible first | exact Le.const | refine Le.bind ?_ fun _=>?_ | refine Le.cond ?_ ?_ | refine Le.elim (fun _=>?_) fun _=>?_ | exact Le.of rfl)) h
theorem yn.e (k:Nat) (x:Tup (sigTys yn.hd)):fnK T0 (yn.env k) [⟨0,yn.L0 k⟩] yn.C Tryz.f154 2 80 yn.hd yn.os x=yn.f k x.1 x.2:=by kernel_rfl
def yn.fn (k:Nat):Kn P0 G0:=⟨154,2,80,yn.hd,1,yn.os,fun x=>yn.f k x.1 x.2,contract (T:=T0) (fn:=Tryz.f154) hm0 hT0 (by kernel_rfl) (by kernel_rfl) (L:=[⟨0,yn.L0 k⟩]) (C:=yn.C) (by kernel_rfl) (by decide) rfl (by kernel_rfl) (loops_fn yn.d ⟨yn.s0 k,trivial⟩) (yn.e k),none⟩
def yW.hd:Sig:=[⟨false,0,(.imm api_Int)⟩,⟨false,1,(.imm api_Int)⟩]
def yW.os:List Sig:=[[⟨false,0,(.agg api_Int (.acons (.imm .bool) (.acons (.own 25 false 111 (.int .u32)) .anil)))⟩]]
def yW.C:List CutAt:=[]
def yW.env (k:Nat):List (Kn P0 G0):=[yy.fn k,yn.fn k,yw.fn k,yg.fn k]
theorem yW.d:distN (loopIds (Tryz.f115.body.getD .skip) 0)=true:=by kernel_rfl
def yW.b (c0:WH→Option (Bool × LI)) (c1:LI→LI→Option LI) (c2:Bool→LI→Option (Bool × LI)) (c3:LI→LI→Option (Bool ⊕ (LI × Bool))) (a0:WH) (a1:WH):Option (Bool × LI):=(Option.bind (c0 a0) fun y3=>(Option.bind (c0 a1) fun y4=>(bif (y3.1 == y4.1) then (Option.bind (c1 y3.2 y4.2) fun y5=>(Option.bind (c2 y3.1 y5) fun y6=>(some (y6.1,y6.2)))) else (Option.bind (c3 y3.2 y4.2) fun y5=>(Sum.elim (fun y6=>(bif y6 then (Option.bind (c2 y3.1 ([]:LI)) fun y7=>(some (y7.1,y7.2))) else (Option.bind (c3 y4.2 y3.2) fun y7=>(Sum.elim (fun y8=>(Option.bind (c2 y4.1 ([]:LI)) fun y9=>(some (y9.1,y9.2)))) (fun y8=>(Option.bind (c2 y4.1 y8.1) fun y9=>(some (y9.1,y9.2)))) y7)))) (fun y6=>(bif y6.2 then (Option.bind (c2 y3.1 y6.1) fun y7=>(some (y7.1,y7.2))) else (Option.bind (c3 y4.2 y3.2) fun y7=>(Sum.elim (fun y8=>(Option.bind (c2 y4.1 ([]:LI)) fun y9=>(some (y9.1,y9.2)))) (fun y8=>(Option.bind (c2 y4.1 y8.1) fun y9=>(some (y9.1,y9.2)))) y7)))) y5)))))
def yW.f (k:Nat) a0 a1:=yW.b (yy.f k) (yn.f k) (yw.f k) (yg.f k) a0 a1
noncomputable def yW.V a0 a1:=lim fun k=>yW.f k a0 a1
theorem yW.v a0 a1 {y} (h:yW.b yy.V yn.V yw.V yg.V a0 a1=some y):yW.V a0 a1=some y:=Le.v (by unfold yW.f yW.b;repeat (first | with_reducible first | exact Le.const | refine Le.bind ?_ fun _=>?_ | refine Le.cond ?_ ?_ | refine Le.elim (fun _=>?_) fun _=>?_ | exact Le.of rfl)) h
theorem yW.e (k:Nat) (x:Tup (sigTys yW.hd)):fnK T0 (yW.env k) [] yW.C Tryz.f115 2 102 yW.hd yW.os x=yW.f k x.1 x.2:=by kernel_rfl
def yW.fn (k:Nat):Kn P0 G0:=⟨115,2,102,yW.hd,1,yW.os,fun x=>yW.f k x.1 x.2,contract (T:=T0) (fn:=Tryz.f115) hm0 hT0 (by kernel_rfl) (by kernel_rfl) (L:=[]) (C:=yW.C) (by kernel_rfl) (by decide) rfl (by kernel_rfl) (loops_fn yW.d trivial) (yW.e k),none⟩
def xo.hd:Sig:=[⟨false,0,(.imm api_Int)⟩,⟨false,1,(.imm (.list (.int .u32)))⟩]
def xo.os:List Sig:=[[⟨false,0,(.imm api_Rat)⟩,⟨false,1,(.imm (.int .i64))⟩]]
def xo.C:List CutAt:=[]
def xo.env (k:Nat):List (Kn P0 G0):=[yy.fn k,yo.fn k,yl.fn k,yh.fn k]
theorem xo.d:distN (loopIds (Tryz.f114.body.getD .skip) 0)=true:=by kernel_rfl
def xo.b (c0:WH→Option (Bool × LI)) (c1:LI→Option LI) (c2:LI→LI→Option LI) (c3:LI→LI→Option (Bool ⊕ (LI × LI × Bool))) (a0:WH) (a1:LI):Option (RA × Int):=(Option.bind (c0 a0) fun y3=>(Option.bind (c1 a1) fun y4=>(bif ((((List.length y4):Nat):Int) == (0:Int)) then (some (((false,(([]:LI),())),(([]:LI),())),(3:Int))) else (Option.bind (c2 y3.2 y4) fun y5=>(Option.bind (c3 y3.2 y5) fun y6=>(Sum.elim (fun y7=>(Option.bind (c3 y4 y5) fun y8=>(Sum.elim (fun y9=>(some (((y3.1,(([]:LI),())),(([]:LI),())),(0:Int)))) (fun y9=>(bif (decide ((((List.length y9.1):Nat):Int) > (64:Int))) then (some (((false,(([]:LI),())),(([]:LI),())),(2:Int))) else (some (((y3.1,(([]:LI),())),(y9.1,())),(0:Int))))) y8))) (fun y7=>(Option.bind (c3 y4 y5) fun y8=>(Sum.elim (fun y9=>(bif (decide ((((List.length y7.1):Nat):Int) > (64:Int))) then (some (((false,(([]:LI),())),(([]:LI),())),(2:Int))) else (some (((y3.1,(y7.1,())),(([]:LI),())),(0:Int))))) (fun y9=>(bif (decide ((((List.length y7.1):Nat):Int) > (64:Int))) then (some (((false,(([]:LI),())),(([]:LI),())),(2:Int))) else (bif (decide ((((List.length y9.1):Nat):Int) > (64:Int))) then (some (((false,(([]:LI),())),(([]:LI),())),(2:Int))) else (some (((y3.1,(y7.1,())),(y9.1,())),(0:Int)))))) y8))) y6))))))
def xo.f (k:Nat) a0 a1:=xo.b (yy.f k) (yo.f k) (yl.f k) (yh.f k) a0 a1
noncomputable def xo.V a0 a1:=lim fun k=>xo.f k a0 a1
theorem xo.v a0 a1 {y} (h:xo.b yy.V yo.V yl.V yh.V a0 a1=some y):xo.V a0 a1=some y:=Le.v (by unfold xo.f xo.b;repeat (first | with_reducible first | exact Le.const | refine Le.bind ?_ fun _=>?_ | refine Le.cond ?_ ?_ | refine Le.elim (fun _=>?_) fun _=>?_ | exact Le.of rfl)) h
theorem xo.e (k:Nat) (x:Tup (sigTys xo.hd)):fnK T0 (xo.env k) [] xo.C Tryz.f114 2 96 xo.hd xo.os x=xo.f k x.1 x.2:=by kernel_rfl
def xo.fn (k:Nat):Kn P0 G0:=⟨114,2,96,xo.hd,2,xo.os,fun x=>xo.f k x.1 x.2,contract (T:=T0) (fn:=Tryz.f114) hm0 hT0 (by kernel_rfl) (by kernel_rfl) (L:=[]) (C:=xo.C) (by kernel_rfl) (by decide) rfl (by kernel_rfl) (loops_fn xo.d trivial) (xo.e k),none⟩
def xh.hd:Sig:=[⟨false,0,(.imm api_Rat)⟩,⟨false,1,(.imm api_Rat)⟩]
def xh.os:List Sig:=[[⟨false,0,(.agg api_Rat (.acons (.agg api_Int (.acons (.imm .bool) (.acons (.imm (.list (.int .u32))) .anil))) (.acons (.imm (.list (.int .u32))) .anil)))⟩,⟨false,1,(.imm (.int .i64))⟩]]
def xh.C:List CutAt:=[]
def xh.env (k:Nat):List (Kn P0 G0):=[yu.fn k,yP.fn k,yW.fn k,zA.fn k,xo.fn k]
theorem xh.d:distN (loopIds (Tryz.f76.body.getD .skip) 0)=true:=by kernel_rfl
def xh.b (c0:RA→Option Bool) (c1:RA→RA→Option (Bool × LI)) (c2:WH→WH→Option (Bool × LI)) (c3:LI→LI→Option LI) (c4:WH→LI→Option (RA × Int)) (a0:RA) (a1:RA):Option (Bool × LI × LI × Int):=(Option.bind (c0 a0) fun y3=>(bif (!y3) then (some (false,(([]:LI),(([]:LI),(1:Int))))) else (Option.bind (c0 a1) fun y4=>(bif (!y4) then (some (false,(([]:LI),(([]:LI),(1:Int))))) else (Option.bind (c1 a0 a1) fun y5=>(Option.bind (c1 a1 a0) fun y6=>(Option.bind (c2 (y5.1,(y5.2,())) (y6.1,(y6.2,()))) fun y7=>(Option.bind (c3 a0.2.1 a1.2.1) fun y8=>(Option.bind (c4 (y7.1,(y7.2,())) y8) fun y9=>(some (y9.1.1.1,(y9.1.1.2.1,(y9.1.2.1,y9.2)))))))))))))
def xh.f (k:Nat) a0 a1:=xh.b (yu.f k) (yP.f k) (yW.f k) (zA.f k) (xo.f k) a0 a1
noncomputable def xh.V a0 a1:=lim fun k=>xh.f k a0 a1
theorem xh.v a0 a1 {y} (h:xh.b yu.V yP.V yW.V zA.V xo.V a0 a1=some y):xh.V a0 a1=some y:=Le.v (by unfold xh.f xh.b;repeat (first | with_reducible first | exact Le.const | refine Le.bind ?_ fun _=>?_ | refine Le.cond ?_ ?_ | refine Le.elim (fun _=>?_) fun _=>?_ | exact Le.of rfl)) h
theorem xh.e (k:Nat) (x:Tup (sigTys xh.hd)):fnK T0 (xh.env k) [] xh.C Tryz.f76 2 60 xh.hd xh.os x=xh.f k x.1 x.2:=by kernel_rfl
def xh.fn (k:Nat):Kn P0 G0:=⟨76,2,60,xh.hd,2,xh.os,fun x=>xh.f k x.1 x.2,contract (T:=T0) (fn:=Tryz.f76) hm0 hT0 (by kernel_rfl) (by kernel_rfl) (L:=[]) (C:=xh.C) (by kernel_rfl) (by decide) rfl (by kernel_rfl) (loops_fn xh.d trivial) (xh.e k),none⟩
def xu.hd:Sig:=[⟨false,0,(.imm api_Rat)⟩,⟨false,1,(.imm api_Rat)⟩]
def xu.os:List Sig:=[[⟨false,0,(.agg api_Rat (.acons (.agg api_Int (.acons (.imm .bool) (.acons (.imm (.list (.int .u32))) .anil))) (.acons (.imm (.list (.int .u32))) .anil)))⟩,⟨false,1,(.imm (.int .i64))⟩]]
def xu.C:List CutAt:=[]
def xu.env (k:Nat):List (Kn P0 G0):=[xj.fn k,xh.fn k]
theorem xu.d:distN (loopIds (Tryz.f77.body.getD .skip) 0)=true:=by kernel_rfl
def xu.b (c0:RA→Option (Bool × LI × LI)) (c1:RA→RA→Option (Bool × LI × LI × Int)) (a0:RA) (a1:RA):Option (Bool × LI × LI × Int):=(Option.bind (c0 a1) fun y3=>(Option.bind (c1 a0 ((y3.1,(y3.2.1,())),(y3.2.2,()))) fun y4=>(some (y4.1,(y4.2.1,(y4.2.2.1,y4.2.2.2))))))
def xu.f (k:Nat) a0 a1:=xu.b (xj.f k) (xh.f k) a0 a1
noncomputable def xu.V a0 a1:=lim fun k=>xu.f k a0 a1
theorem xu.v a0 a1 {y} (h:xu.b xj.V xh.V a0 a1=some y):xu.V a0 a1=some y:=Le.v (by unfold xu.f xu.b;repeat (first | with_reducible first | exact Le.const | refine Le.bind ?_ fun _=>?_ | refine Le.cond ?_ ?_ | refine Le.elim (fun _=>?_) fun _=>?_ | exact Le.of rfl)) h
theorem xu.e (k:Nat) (x:Tup (sigTys xu.hd)):fnK T0 (xu.env k) [] xu.C Tryz.f77 2 24 xu.hd xu.os x=xu.f k x.1 x.2:=by kernel_rfl
def xu.fn (k:Nat):Kn P0 G0:=⟨77,2,24,xu.hd,2,xu.os,fun x=>xu.f k x.1 x.2,contract (T:=T0) (fn:=Tryz.f77) hm0 hT0 (by kernel_rfl) (by kernel_rfl) (L:=[]) (C:=xu.C) (by kernel_rfl) (by decide) rfl (by kernel_rfl) (loops_fn xu.d trivial) (xu.e k),none⟩
def xp.hd:Sig:=[⟨false,0,(.imm api_Rat)⟩,⟨false,1,(.imm api_Rat)⟩]
def xp.os:List Sig:=[[⟨false,0,(.agg api_Rat (.acons (.agg api_Int (.acons (.imm .bool) (.acons (.imm (.list (.int .u32))) .anil))) (.acons (.imm (.list (.int .u32))) .anil)))⟩,⟨false,1,(.imm (.int .i64))⟩]]
def xp.C:List CutAt:=[]
def xp.env (k:Nat):List (Kn P0 G0):=[yu.fn k,yL.fn k,zA.fn k,xo.fn k]
theorem xp.d:distN (loopIds (Tryz.f78.body.getD .skip) 0)=true:=by kernel_rfl
def xp.b (c0:RA→Option Bool) (c1:WH→WH→Option (Bool × LI)) (c2:LI→LI→Option LI) (c3:WH→LI→Option (RA × Int)) (a0:RA) (a1:RA):Option (Bool × LI × LI × Int):=(Option.bind (c0 a0) fun y3=>(bif (!y3) then (some (false,(([]:LI),(([]:LI),(1:Int))))) else (Option.bind (c0 a1) fun y4=>(bif (!y4) then (some (false,(([]:LI),(([]:LI),(1:Int))))) else (Option.bind (c1 a0.1 a1.1) fun y5=>(Option.bind (c2 a0.2.1 a1.2.1) fun y6=>(Option.bind (c3 (y5.1,(y5.2,())) y6) fun y7=>(some (y7.1.1.1,(y7.1.1.2.1,(y7.1.2.1,y7.2)))))))))))
def xp.f (k:Nat) a0 a1:=xp.b (yu.f k) (yL.f k) (zA.f k) (xo.f k) a0 a1
noncomputable def xp.V a0 a1:=lim fun k=>xp.f k a0 a1
theorem xp.v a0 a1 {y} (h:xp.b yu.V yL.V zA.V xo.V a0 a1=some y):xp.V a0 a1=some y:=Le.v (by unfold xp.f xp.b;repeat (first | with_reducible first | exact Le.const | refine Le.bind ?_ fun _=>?_ | refine Le.cond ?_ ?_ | refine Le.elim (fun _=>?_) fun _=>?_ | exact Le.of rfl)) h
theorem xp.e (k:Nat) (x:Tup (sigTys xp.hd)):fnK T0 (xp.env k) [] xp.C Tryz.f78 2 56 xp.hd xp.os x=xp.f k x.1 x.2:=by kernel_rfl
def xp.fn (k:Nat):Kn P0 G0:=⟨78,2,56,xp.hd,2,xp.os,fun x=>xp.f k x.1 x.2,contract (T:=T0) (fn:=Tryz.f78) hm0 hT0 (by kernel_rfl) (by kernel_rfl) (L:=[]) (C:=xp.C) (by kernel_rfl) (by decide) rfl (by kernel_rfl) (loops_fn xp.d trivial) (xp.e k),none⟩
def xq.hd:Sig:=[⟨false,0,(.imm api_Rat)⟩,⟨false,1,(.imm api_Rat)⟩]
def xq.os:List Sig:=[[⟨false,0,(.agg api_Rat (.acons (.agg api_Int (.acons (.imm .bool) (.acons (.imm (.list (.int .u32))) .anil))) (.acons (.imm (.list (.int .u32))) .anil)))⟩,⟨false,1,(.imm (.int .i64))⟩]]
def xq.C:List CutAt:=[]
def xq.env (k:Nat):List (Kn P0 G0):=[yu.fn k,yP.fn k,zA.fn k,xo.fn k]
theorem xq.d:distN (loopIds (Tryz.f79.body.getD .skip) 0)=true:=by kernel_rfl
def xq.b (c0:RA→Option Bool) (c1:RA→RA→Option (Bool × LI)) (c2:LI→LI→Option LI) (c3:WH→LI→Option (RA × Int)) (a0:RA) (a1:RA):Option (Bool × LI × LI × Int):=(Option.bind (c0 a0) fun y3=>(bif (!y3) then (some (false,(([]:LI),(([]:LI),(1:Int))))) else (Option.bind (c0 a1) fun y4=>(bif (!y4) then (some (false,(([]:LI),(([]:LI),(1:Int))))) else (Option.bind (c1 a0 a1) fun y5=>(Option.bind (c2 a0.2.1 a1.1.2.1) fun y6=>(Option.bind (c3 ((!(y5.1 == a1.1.1)),(y5.2,())) y6) fun y7=>(some (y7.1.1.1,(y7.1.1.2.1,(y7.1.2.1,y7.2)))))))))))
def xq.f (k:Nat) a0 a1:=xq.b (yu.f k) (yP.f k) (zA.f k) (xo.f k) a0 a1
noncomputable def xq.V a0 a1:=lim fun k=>xq.f k a0 a1
theorem xq.v a0 a1 {y} (h:xq.b yu.V yP.V zA.V xo.V a0 a1=some y):xq.V a0 a1=some y:=Le.v (by unfold xq.f xq.b;repeat (first | with_reducible first | exact Le.const | refine Le.bind ?_ fun _=>?_ | refine Le.cond ?_ ?_ | refine Le.elim (fun _=>?_) fun _=>?_ | exact Le.of rfl)) h
theorem xq.e (k:Nat) (x:Tup (sigTys xq.hd)):fnK T0 (xq.env k) [] xq.C Tryz.f79 2 72 xq.hd xq.os x=xq.f k x.1 x.2:=by kernel_rfl
def xq.fn (k:Nat):Kn P0 G0:=⟨79,2,72,xq.hd,2,xq.os,fun x=>xq.f k x.1 x.2,contract (T:=T0) (fn:=Tryz.f79) hm0 hT0 (by kernel_rfl) (by kernel_rfl) (L:=[]) (C:=xq.C) (by kernel_rfl) (by decide) rfl (by kernel_rfl) (loops_fn xq.d trivial) (xq.e k),none⟩
def zn.hd:Sig:=[⟨true,94,(.agg simple_maker (.acons (.own 92 false 42 api_Term) (.acons (.mp 93 simple_face (.int .i64)) .anil)))⟩,⟨false,0,(.ptr 94 [] simple_maker)⟩,⟨false,1,(.imm (.int .i64))⟩,⟨false,2,(.imm (.int .i64))⟩,⟨false,3,(.fn 76)⟩]
def zn.os:List Sig:=[[⟨true,94,(.agg simple_maker (.acons (.own 92 false 42 api_Term) (.acons (.mp 93 simple_face (.int .i64)) .anil)))⟩,⟨false,0,(.imm (.int .i64))⟩,⟨false,1,(.imm .bool)⟩]]
def zn.C:List CutAt:=[]
def zn.env (k:Nat):List (Kn P0 G0):=[zD.fn,zk.fn k,xh.fn k]
theorem zn.d:distN (loopIds (Tryz.f97.body.getD .skip) 0)=true:=by kernel_rfl
def zn.b (c0:RA→RA→Option (Bool × LI × LI × Int)) (c1:CO→MP→RA→Option (CO × MP × Int)) (a0:CO) (a1:MP) (a2:Int) (a3:Int):Option (CO × MP × Int × Bool):=(Option.bind (zD.f a0 (a1,a2).1 (a1,a2).2) fun y5=>(Option.bind (zD.f y5.1 (y5.2.1,a3).1 (y5.2.1,a3).2) fun y6=>(bif (!y5.2.2.2) then (some (y6.1,(y6.2.1,((0:Int),false)))) else (bif (!y6.2.2.2) then (some (y6.1,(y6.2.1,((0:Int),false)))) else (Option.bind (c0 y5.2.2.1 y6.2.2.1) fun y7=>(bif (y7.2.2.2 != (0:Int)) then (some (y6.1,(y6.2.1,((0:Int),false)))) else (Option.bind (c1 y6.1 (y6.2.1,((y7.1,(y7.2.1,())),(y7.2.2.1,()))).1 (y6.2.1,((y7.1,(y7.2.1,())),(y7.2.2.1,()))).2) fun y8=>(some (y8.1,(y8.2.1,(y8.2.2,true)))))))))))
def zn.f (k:Nat) a0 a1 a2 a3:=zn.b (xh.f k) (zk.f k) a0 a1 a2 a3
noncomputable def zn.V a0 a1 a2 a3:=lim fun k=>zn.f k a0 a1 a2 a3
theorem zn.v a0 a1 a2 a3 {y} (h:zn.b xh.V zk.V a0 a1 a2 a3=some y):zn.V a0 a1 a2 a3=some y:=Le.v (by unfold zn.f zn.b;repeat (first | with_reducible first | exact Le.const | refine Le.bind ?_ fun _=>?_ | refine Le.cond ?_ ?_ | refine Le.elim (fun _=>?_) fun _=>?_ | exact Le.of rfl)) h
theorem zn.e (k:Nat) (x:Tup (sigTys zn.hd)):fnK T0 (zn.env k) [] zn.C Tryz.f97 4 95 zn.hd zn.os x=zn.f k x.1 x.2.1 x.2.2.1 x.2.2.2:=by kernel_rfl
def zn.fn (k:Nat):Kn P0 G0:=⟨97,4,95,zn.hd,2,zn.os,fun x=>zn.f k x.1 x.2.1 x.2.2.1 x.2.2.2,contract (T:=T0) (fn:=Tryz.f97) hm0 hT0 (by kernel_rfl) (by kernel_rfl) (L:=[]) (C:=zn.C) (by kernel_rfl) (by decide) rfl (by kernel_rfl) (loops_fn zn.d trivial) (zn.e k),none⟩
def zu.hd:Sig:=[⟨true,94,(.agg simple_maker (.acons (.own 92 false 42 api_Term) (.acons (.mp 93 simple_face (.int .i64)) .anil)))⟩,⟨false,0,(.ptr 94 [] simple_maker)⟩,⟨false,1,(.imm (.int .i64))⟩,⟨false,2,(.imm (.int .i64))⟩,⟨false,3,(.fn 77)⟩]
def zu.os:List Sig:=[[⟨true,94,(.agg simple_maker (.acons (.own 92 false 42 api_Term) (.acons (.mp 93 simple_face (.int .i64)) .anil)))⟩,⟨false,0,(.imm (.int .i64))⟩,⟨false,1,(.imm .bool)⟩]]
def zu.C:List CutAt:=[]
def zu.env (k:Nat):List (Kn P0 G0):=[zD.fn,zk.fn k,xu.fn k]
theorem zu.d:distN (loopIds (Tryz.f97.body.getD .skip) 0)=true:=by kernel_rfl
def zu.b (c0:RA→RA→Option (Bool × LI × LI × Int)) (c1:CO→MP→RA→Option (CO × MP × Int)) (a0:CO) (a1:MP) (a2:Int) (a3:Int):Option (CO × MP × Int × Bool):=(Option.bind (zD.f a0 (a1,a2).1 (a1,a2).2) fun y5=>(Option.bind (zD.f y5.1 (y5.2.1,a3).1 (y5.2.1,a3).2) fun y6=>(bif (!y5.2.2.2) then (some (y6.1,(y6.2.1,((0:Int),false)))) else (bif (!y6.2.2.2) then (some (y6.1,(y6.2.1,((0:Int),false)))) else (Option.bind (c0 y5.2.2.1 y6.2.2.1) fun y7=>(bif (y7.2.2.2 != (0:Int)) then (some (y6.1,(y6.2.1,((0:Int),false)))) else (Option.bind (c1 y6.1 (y6.2.1,((y7.1,(y7.2.1,())),(y7.2.2.1,()))).1 (y6.2.1,((y7.1,(y7.2.1,())),(y7.2.2.1,()))).2) fun y8=>(some (y8.1,(y8.2.1,(y8.2.2,true)))))))))))
def zu.f (k:Nat) a0 a1 a2 a3:=zu.b (xu.f k) (zk.f k) a0 a1 a2 a3
noncomputable def zu.V a0 a1 a2 a3:=lim fun k=>zu.f k a0 a1 a2 a3
theorem zu.v a0 a1 a2 a3 {y} (h:zu.b xu.V zk.V a0 a1 a2 a3=some y):zu.V a0 a1 a2 a3=some y:=Le.v (by unfold zu.f zu.b;repeat (first | with_reducible first | exact Le.const | refine Le.bind ?_ fun _=>?_ | refine Le.cond ?_ ?_ | refine Le.elim (fun _=>?_) fun _=>?_ | exact Le.of rfl)) h
theorem zu.e (k:Nat) (x:Tup (sigTys zu.hd)):fnK T0 (zu.env k) [] zu.C Tryz.f97 4 95 zu.hd zu.os x=zu.f k x.1 x.2.1 x.2.2.1 x.2.2.2:=by kernel_rfl
def zu.fn (k:Nat):Kn P0 G0:=⟨97,4,95,zu.hd,2,zu.os,fun x=>zu.f k x.1 x.2.1 x.2.2.1 x.2.2.2,contract (T:=T0) (fn:=Tryz.f97) hm0 hT0 (by kernel_rfl) (by kernel_rfl) (L:=[]) (C:=zu.C) (by kernel_rfl) (by decide) rfl (by kernel_rfl) (loops_fn zu.d trivial) (zu.e k),none⟩
def zr.hd:Sig:=[⟨true,94,(.agg simple_maker (.acons (.own 92 false 42 api_Term) (.acons (.mp 93 simple_face (.int .i64)) .anil)))⟩,⟨false,0,(.ptr 94 [] simple_maker)⟩,⟨false,1,(.imm (.int .i64))⟩,⟨false,2,(.imm (.int .i64))⟩,⟨false,3,(.fn 78)⟩]
def zr.os:List Sig:=[[⟨true,94,(.agg simple_maker (.acons (.own 92 false 42 api_Term) (.acons (.mp 93 simple_face (.int .i64)) .anil)))⟩,⟨false,0,(.imm (.int .i64))⟩,⟨false,1,(.imm .bool)⟩]]
def zr.C:List CutAt:=[]
def zr.env (k:Nat):List (Kn P0 G0):=[zD.fn,zk.fn k,xp.fn k]
theorem zr.d:distN (loopIds (Tryz.f97.body.getD .skip) 0)=true:=by kernel_rfl
def zr.b (c0:RA→RA→Option (Bool × LI × LI × Int)) (c1:CO→MP→RA→Option (CO × MP × Int)) (a0:CO) (a1:MP) (a2:Int) (a3:Int):Option (CO × MP × Int × Bool):=(Option.bind (zD.f a0 (a1,a2).1 (a1,a2).2) fun y5=>(Option.bind (zD.f y5.1 (y5.2.1,a3).1 (y5.2.1,a3).2) fun y6=>(bif (!y5.2.2.2) then (some (y6.1,(y6.2.1,((0:Int),false)))) else (bif (!y6.2.2.2) then (some (y6.1,(y6.2.1,((0:Int),false)))) else (Option.bind (c0 y5.2.2.1 y6.2.2.1) fun y7=>(bif (y7.2.2.2 != (0:Int)) then (some (y6.1,(y6.2.1,((0:Int),false)))) else (Option.bind (c1 y6.1 (y6.2.1,((y7.1,(y7.2.1,())),(y7.2.2.1,()))).1 (y6.2.1,((y7.1,(y7.2.1,())),(y7.2.2.1,()))).2) fun y8=>(some (y8.1,(y8.2.1,(y8.2.2,true)))))))))))
def zr.f (k:Nat) a0 a1 a2 a3:=zr.b (xp.f k) (zk.f k) a0 a1 a2 a3
noncomputable def zr.V a0 a1 a2 a3:=lim fun k=>zr.f k a0 a1 a2 a3
theorem zr.v a0 a1 a2 a3 {y} (h:zr.b xp.V zk.V a0 a1 a2 a3=some y):zr.V a0 a1 a2 a3=some y:=Le.v (by unfold zr.f zr.b;repeat (first | with_reducible first | exact Le.const | refine Le.bind ?_ fun _=>?_ | refine Le.cond ?_ ?_ | refine Le.elim (fun _=>?_) fun _=>?_ | exact Le.of rfl)) h
theorem zr.e (k:Nat) (x:Tup (sigTys zr.hd)):fnK T0 (zr.env k) [] zr.C Tryz.f97 4 95 zr.hd zr.os x=zr.f k x.1 x.2.1 x.2.2.1 x.2.2.2:=by kernel_rfl
def zr.fn (k:Nat):Kn P0 G0:=⟨97,4,95,zr.hd,2,zr.os,fun x=>zr.f k x.1 x.2.1 x.2.2.1 x.2.2.2,contract (T:=T0) (fn:=Tryz.f97) hm0 hT0 (by kernel_rfl) (by kernel_rfl) (L:=[]) (C:=zr.C) (by kernel_rfl) (by decide) rfl (by kernel_rfl) (loops_fn zr.d trivial) (zr.e k),none⟩
def zv.hd:Sig:=[⟨true,94,(.agg simple_maker (.acons (.own 92 false 42 api_Term) (.acons (.mp 93 simple_face (.int .i64)) .anil)))⟩,⟨false,0,(.ptr 94 [] simple_maker)⟩,⟨false,1,(.imm (.int .i64))⟩,⟨false,2,(.imm (.int .i64))⟩,⟨false,3,(.fn 79)⟩]
def zv.os:List Sig:=[[⟨true,94,(.agg simple_maker (.acons (.own 92 false 42 api_Term) (.acons (.mp 93 simple_face (.int .i64)) .anil)))⟩,⟨false,0,(.imm (.int .i64))⟩,⟨false,1,(.imm .bool)⟩]]
def zv.C:List CutAt:=[]
def zv.env (k:Nat):List (Kn P0 G0):=[zD.fn,zk.fn k,xq.fn k]
theorem zv.d:distN (loopIds (Tryz.f97.body.getD .skip) 0)=true:=by kernel_rfl
def zv.b (c0:RA→RA→Option (Bool × LI × LI × Int)) (c1:CO→MP→RA→Option (CO × MP × Int)) (a0:CO) (a1:MP) (a2:Int) (a3:Int):Option (CO × MP × Int × Bool):=(Option.bind (zD.f a0 (a1,a2).1 (a1,a2).2) fun y5=>(Option.bind (zD.f y5.1 (y5.2.1,a3).1 (y5.2.1,a3).2) fun y6=>(bif (!y5.2.2.2) then (some (y6.1,(y6.2.1,((0:Int),false)))) else (bif (!y6.2.2.2) then (some (y6.1,(y6.2.1,((0:Int),false)))) else (Option.bind (c0 y5.2.2.1 y6.2.2.1) fun y7=>(bif (y7.2.2.2 != (0:Int)) then (some (y6.1,(y6.2.1,((0:Int),false)))) else (Option.bind (c1 y6.1 (y6.2.1,((y7.1,(y7.2.1,())),(y7.2.2.1,()))).1 (y6.2.1,((y7.1,(y7.2.1,())),(y7.2.2.1,()))).2) fun y8=>(some (y8.1,(y8.2.1,(y8.2.2,true)))))))))))
def zv.f (k:Nat) a0 a1 a2 a3:=zv.b (xq.f k) (zk.f k) a0 a1 a2 a3
noncomputable def zv.V a0 a1 a2 a3:=lim fun k=>zv.f k a0 a1 a2 a3
theorem zv.v a0 a1 a2 a3 {y} (h:zv.b xq.V zk.V a0 a1 a2 a3=some y):zv.V a0 a1 a2 a3=some y:=Le.v (by unfold zv.f zv.b;repeat (first | with_reducible first | exact Le.const | refine Le.bind ?_ fun _=>?_ | refine Le.cond ?_ ?_ | refine Le.elim (fun _=>?_) fun _=>?_ | exact Le.of rfl)) h
theorem zv.e (k:Nat) (x:Tup (sigTys zv.hd)):fnK T0 (zv.env k) [] zv.C Tryz.f97 4 95 zv.hd zv.os x=zv.f k x.1 x.2.1 x.2.2.1 x.2.2.2:=by kernel_rfl
def zv.fn (k:Nat):Kn P0 G0:=⟨97,4,95,zv.hd,2,zv.os,fun x=>zv.f k x.1 x.2.1 x.2.2.1 x.2.2.2,contract (T:=T0) (fn:=Tryz.f97) hm0 hT0 (by kernel_rfl) (by kernel_rfl) (L:=[]) (C:=zv.C) (by kernel_rfl) (by decide) rfl (by kernel_rfl) (loops_fn zv.d trivial) (zv.e k),none⟩
def xx.hd:Sig:=[⟨false,0,(.imm (.int .i64))⟩]
def xx.os:List Sig:=[[⟨false,0,(.agg api_Int (.acons (.imm .bool) (.acons (.own 9 false 111 (.int .u32)) .anil)))⟩]]
def xx.C:List CutAt:=[]
def xx.env (k:Nat):List (Kn P0 G0):=[xn.fn k,yw.fn k]
theorem xx.d:distN (loopIds (Tryz.f127.body.getD .skip) 0)=true:=by kernel_rfl
def xx.b (c0:Int→Option LI) (c1:Bool→LI→Option (Bool × LI)) (a0:Int):Option (Bool × LI):=(bif (decide (a0 < (0:Int))) then (Option.bind (c0 (IntKind.wrap .u64 ((0:Int) - (IntKind.wrap .u64 a0)))) fun y2=>(Option.bind (c1 true y2) fun y3=>(some (y3.1,y3.2)))) else (Option.bind (c0 (IntKind.wrap .u64 a0)) fun y2=>(Option.bind (c1 false y2) fun y3=>(some (y3.1,y3.2)))))
def xx.f (k:Nat) a0:=xx.b (xn.f k) (yw.f k) a0
noncomputable def xx.V a0:=lim fun k=>xx.f k a0
theorem xx.v a0 {y} (h:xx.b xn.V yw.V a0=some y):xx.V a0=some y:=Le.v (by unfold xx.f xx.b;repeat (first | with_reducible first | exact Le.const | refine Le.bind ?_ fun _=>?_ | refine Le.cond ?_ ?_ | refine Le.elim (fun _=>?_) fun _=>?_ | exact Le.of rfl)) h
theorem xx.e (k:Nat) (x:Tup (sigTys xx.hd)):fnK T0 (xx.env k) [] xx.C Tryz.f127 1 28 xx.hd xx.os x=xx.f k x:=by kernel_rfl
def xx.fn (k:Nat):Kn P0 G0:=⟨127,1,28,xx.hd,1,xx.os,fun x=>xx.f k x,contract (T:=T0) (fn:=Tryz.f127) hm0 hT0 (by kernel_rfl) (by kernel_rfl) (L:=[]) (C:=xx.C) (by kernel_rfl) (by decide) rfl (by kernel_rfl) (loops_fn xx.d trivial) (xx.e k),none⟩
def yx.hd:Sig:=[⟨false,0,(.imm (.int .i64))⟩]
def yx.os:List Sig:=[[⟨false,0,(.agg api_Rat (.acons (.agg api_Int (.acons (.imm .bool) (.acons (.own 4 false 111 (.int .u32)) .anil))) (.acons (.own 5 false 111 (.int .u32)) .anil)))⟩]]
def yx.C:List CutAt:=[]
def yx.env (k:Nat):List (Kn P0 G0):=[xx.fn k,xn.fn k]
theorem yx.d:distN (loopIds (Tryz.f90.body.getD .skip) 0)=true:=by kernel_rfl
def yx.b (c0:Int→Option (Bool × LI)) (c1:Int→Option LI) (a0:Int):Option (Bool × LI × LI):=(Option.bind (c0 a0) fun y2=>(Option.bind (c1 (1:Int)) fun y3=>(some (y2.1,(y2.2,y3)))))
def yx.f (k:Nat) a0:=yx.b (xx.f k) (xn.f k) a0
noncomputable def yx.V a0:=lim fun k=>yx.f k a0
theorem yx.v a0 {y} (h:yx.b xx.V xn.V a0=some y):yx.V a0=some y:=Le.v (by unfold yx.f yx.b;repeat (first | with_reducible first | exact Le.const | refine Le.bind ?_ fun _=>?_ | refine Le.cond ?_ ?_ | refine Le.elim (fun _=>?_) fun _=>?_ | exact Le.of rfl)) h
theorem yx.e (k:Nat) (x:Tup (sigTys yx.hd)):fnK T0 (yx.env k) [] yx.C Tryz.f90 1 14 yx.hd yx.os x=yx.f k x:=by kernel_rfl
def yx.fn (k:Nat):Kn P0 G0:=⟨90,1,14,yx.hd,1,yx.os,fun x=>yx.f k x,contract (T:=T0) (fn:=Tryz.f90) hm0 hT0 (by kernel_rfl) (by kernel_rfl) (L:=[]) (C:=yx.C) (by kernel_rfl) (by decide) rfl (by kernel_rfl) (loops_fn yx.d trivial) (yx.e k),none⟩
def zc.hd:Sig:=[⟨false,0,(.imm (.list (.int .u32)))⟩,⟨false,1,(.imm (.list (.int .u32)))⟩]
def zc.os:List Sig:=[[⟨false,0,(.imm .bool)⟩]]
def zc.h0:Sig:=[⟨false,0,(.imm (.list (.int .u32)))⟩,⟨false,1,(.imm (.list (.int .u32)))⟩,⟨false,12,(.imm (.int .i64))⟩,⟨false,13,(.imm (.int .i64))⟩]
def zc.o0:Outs:=[((.exit 0),[]),(.ret,[⟨false,4,(.imm .bool)⟩])]
def zc.C:List CutAt:=[]
def zc.env (k:Nat):List (Kn P0 G0):=[]
theorem zc.d:distN (loopIds (Tryz.f163.body.getD .skip) 0)=true:=by kernel_rfl
def zc.b0 (c0:LI→LI→Int→Int→Option ((Unit) ⊕ Bool)) (x0:LI) (x1:LI) (x2:Int) (x3:Int):Option ((Unit) ⊕ Bool):=(bif (decide (x3 < x2)) then (bif (decide (((0:Int) ≤ x3)∧(x3 < (((List.length x0):Nat):Int)))) then (bif (decide (((0:Int) ≤ x3)∧(x3 < (((List.length x1):Nat):Int)))) then (bif ((rdL (0:Int) x0 x3) != (rdL (0:Int) x1 x3)) then (some (Sum.inr false)) else (c0 x0 x1 x2 (IntKind.wrap .i64 (x3 + (1:Int))))) else none) else none) else (some (Sum.inl ())))
def zc.l0:Nat→LI→LI→Int→Int→Option ((Unit) ⊕ Bool)
 | 0,_,_,_,_=>none
 | k + 1,x0,x1,x2,x3=>zc.b0 (zc.l0 k) x0 x1 x2 x3
noncomputable def zc.V0 x0 x1 x2 x3:=lim fun k=>zc.l0 k x0 x1 x2 x3
theorem zc.v0 x0 x1 x2 x3 {y} (h:zc.b0 zc.V0 x0 x1 x2 x3=some y):zc.V0 x0 x1 x2 x3=some y:=Le.v (.succ (by unfold zc.l0 zc.b0;repeat (first | with_reducible first | exact Le.const | refine Le.bind ?_ fun _=>?_ | refine Le.cond ?_ ?_ | refine Le.elim (fun _=>?_) fun _=>?_ | exact Le.of rfl))) h
def zc.L0 (k:Nat):LFn:=⟨zc.h0,zc.o0,fun x=>zc.l0 k x.1 x.2.1 x.2.2.1 x.2.2.2⟩
theorem zc.r0 (k:Nat) (x:Tup (sigTys zc.h0)):roundK T0 (zc.env k) 26 52 [] zc.C (loopOf Tryz.f163 0) 0 zc.h0 zc.o0 (zc.L0 k).f x=(zc.L0 (k + 1)).f x:=by kernel_rfl
theorem zc.s0 (k:Nat):LoopSound P0 G0 26 52 (sigPins zc.hd) (zc.L0 k) (loopOf Tryz.f163 0):=loop_rounds (T:=T0) hm0 hT0 (env:=fun k=>(zc.env k)) (nh:=52) (pn:=sigPins zc.hd) (L:=fun k=>[]) (C:=zc.C) (by kernel_rfl) (hd:=zc.h0) (os:=zc.o0) (by kernel_rfl) (by kernel_rfl) (by kernel_rfl) (g:=fun k=>(zc.L0 k).f) (fun k=>loops_in zc.d trivial) (fun _=>rfl) (fun k x=>zc.r0 k x) k
def zc.b (c0:LI→LI→Int→Int→Option ((Unit) ⊕ Bool)) (a0:LI) (a1:LI):Option Bool:=(bif ((((List.length a0):Nat):Int) != (((List.length a1):Nat):Int)) then (some false) else (Option.bind (c0 a0 (a1,((((List.length a0):Nat):Int),(0:Int))).1 (a1,((((List.length a0):Nat):Int),(0:Int))).2.1 (a1,((((List.length a0):Nat):Int),(0:Int))).2.2) fun y3=>(Sum.elim (fun y4=>(some true)) (fun y4=>(some y4)) y3)))
def zc.f (k:Nat) a0 a1:=zc.b (zc.l0 k) a0 a1
noncomputable def zc.V a0 a1:=lim fun k=>zc.f k a0 a1
theorem zc.v a0 a1 {y} (h:zc.b zc.V0 a0 a1=some y):zc.V a0 a1=some y:=Le.v (by unfold zc.f zc.b;repeat (first | with_reducible first | exact Le.const | refine Le.bind ?_ fun _=>?_ | refine Le.cond ?_ ?_ | refine Le.elim (fun _=>?_) fun _=>?_ | exact Le.of rfl)) h
theorem zc.e (k:Nat) (x:Tup (sigTys zc.hd)):fnK T0 (zc.env k) [⟨0,zc.L0 k⟩] zc.C Tryz.f163 2 52 zc.hd zc.os x=zc.f k x.1 x.2:=by kernel_rfl
def zc.fn (k:Nat):Kn P0 G0:=⟨163,2,52,zc.hd,1,zc.os,fun x=>zc.f k x.1 x.2,contract (T:=T0) (fn:=Tryz.f163) hm0 hT0 (by kernel_rfl) (by kernel_rfl) (L:=[⟨0,zc.L0 k⟩]) (C:=zc.C) (by kernel_rfl) (by decide) rfl (by kernel_rfl) (loops_fn zc.d ⟨zc.s0 k,trivial⟩) (zc.e k),none⟩
def xb.hd:Sig:=[⟨false,0,(.imm api_Rat)⟩,⟨false,1,(.imm api_Rat)⟩]
def xb.os:List Sig:=[[⟨false,0,(.imm .bool)⟩]]
def xb.C:List CutAt:=[⟨1000001,[(.normal,[⟨false,4,(.imm .bool)⟩])]⟩]
def xb.env (k:Nat):List (Kn P0 G0):=[yu.fn k,zc.fn k]
theorem xb.d:distN (loopIds (Tryz.f134.body.getD .skip) 0)=true:=by kernel_rfl
def xb.b (c0:RA→Option Bool) (c1:LI→LI→Option Bool) (a0:RA) (a1:RA):Option Bool:=(Option.bind (Option.bind (c0 a0) fun y3=>(bif y3 then (Option.bind (c0 a1) fun y4=>(bif y4 then (bif (a0.1.1 == a1.1.1) then (Option.bind (c1 a0.1.2.1 a1.1.2.1) fun y5=>(bif y5 then (Option.bind (c1 a0.2.1 a1.2.1) fun y6=>(some y6)) else (some false))) else (some false)) else (some false))) else (some false))) fun y3=>(some y3))
def xb.f (k:Nat) a0 a1:=xb.b (yu.f k) (zc.f k) a0 a1
noncomputable def xb.V a0 a1:=lim fun k=>xb.f k a0 a1
theorem xb.v a0 a1 {y} (h:xb.b yu.V zc.V a0 a1=some y):xb.V a0 a1=some y:=Le.v (by unfold xb.f xb.b;repeat (first | with_reducible first | exact Le.const | refine Le.bind ?_ fun _=>?_ | refine Le.cond ?_ ?_ | refine Le.elim (fun _=>?_) fun _=>?_ | exact Le.of rfl)) h
theorem xb.e (k:Nat) (x:Tup (sigTys xb.hd)):fnK T0 (xb.env k) [] xb.C Tryz.f134 2 72 xb.hd xb.os x=xb.f k x.1 x.2:=by kernel_rfl
def xb.fn (k:Nat):Kn P0 G0:=⟨134,2,72,xb.hd,1,xb.os,fun x=>xb.f k x.1 x.2,contract (T:=T0) (fn:=Tryz.f134) hm0 hT0 (by kernel_rfl) (by kernel_rfl) (L:=[]) (C:=xb.C) (by kernel_rfl) (by decide) rfl (by kernel_rfl) (loops_fn xb.d trivial) (xb.e k),none⟩
def zQ.hd:Sig:=[⟨true,46,(.agg simple_maker (.acons (.own 44 false 42 api_Term) (.acons (.mp 45 simple_face (.int .i64)) .anil)))⟩,⟨false,0,(.ptr 46 [] simple_maker)⟩,⟨false,1,(.imm (.int .i64))⟩,⟨false,2,(.imm (.int .i64))⟩]
def zQ.os:List Sig:=[[⟨true,46,(.agg simple_maker (.acons (.own 44 false 42 api_Term) (.acons (.mp 45 simple_face (.int .i64)) .anil)))⟩,⟨false,0,(.imm .bool)⟩]]
def zQ.C:List CutAt:=[]
def zQ.env (k:Nat):List (Kn P0 G0):=[zD.fn,yx.fn k,xb.fn k]
theorem zQ.d:distN (loopIds (Tryz.f98.body.getD .skip) 0)=true:=by kernel_rfl
def zQ.b (c0:Int→Option (Bool × LI × LI)) (c1:RA→RA→Option Bool) (a0:CO) (a1:MP) (a2:Int) (a3:Int):Option (CO × MP × Bool):=(Option.bind (zD.f a0 (a1,a2).1 (a1,a2).2) fun y5=>(bif y5.2.2.2 then (Option.bind (c0 a3) fun y6=>(Option.bind (c1 y5.2.2.1 ((y6.1,(y6.2.1,())),(y6.2.2,()))) fun y7=>(some (y5.1,(y5.2.1,y7))))) else (some (y5.1,(y5.2.1,false)))))
def zQ.f (k:Nat) a0 a1 a2 a3:=zQ.b (yx.f k) (xb.f k) a0 a1 a2 a3
noncomputable def zQ.V a0 a1 a2 a3:=lim fun k=>zQ.f k a0 a1 a2 a3
theorem zQ.v a0 a1 a2 a3 {y} (h:zQ.b yx.V xb.V a0 a1 a2 a3=some y):zQ.V a0 a1 a2 a3=some y:=Le.v (by unfold zQ.f zQ.b;repeat (first | with_reducible first | exact Le.const | refine Le.bind ?_ fun _=>?_ | refine Le.cond ?_ ?_ | refine Le.elim (fun _=>?_) fun _=>?_ | exact Le.of rfl)) h
theorem zQ.e (k:Nat) (x:Tup (sigTys zQ.hd)):fnK T0 (zQ.env k) [] zQ.C Tryz.f98 3 47 zQ.hd zQ.os x=zQ.f k x.1 x.2.1 x.2.2.1 x.2.2.2:=by kernel_rfl
def zQ.fn (k:Nat):Kn P0 G0:=⟨98,3,47,zQ.hd,1,zQ.os,fun x=>zQ.f k x.1 x.2.1 x.2.2.1 x.2.2.2,contract (T:=T0) (fn:=Tryz.f98) hm0 hT0 (by kernel_rfl) (by kernel_rfl) (L:=[]) (C:=zQ.C) (by kernel_rfl) (by decide) rfl (by kernel_rfl) (loops_fn zQ.d trivial) (zQ.e k),none⟩
def zU.hd:Sig:=[⟨true,78,(.agg simple_maker (.acons (.own 76 false 42 api_Term) (.acons (.mp 77 simple_face (.int .i64)) .anil)))⟩,⟨false,0,(.ptr 78 [] simple_maker)⟩,⟨false,1,(.imm (.int .i64))⟩]
def zU.os:List Sig:=[[⟨true,78,(.agg simple_maker (.acons (.own 76 false 42 api_Term) (.acons (.mp 77 simple_face (.int .i64)) .anil)))⟩,⟨false,0,(.agg api_Rat (.acons (.agg api_Int (.acons (.imm .bool) (.acons (.imm (.list (.int .u32))) .anil))) (.acons (.imm (.list (.int .u32))) .anil)))⟩,⟨false,1,(.imm (.int .i64))⟩]]
def zU.C:List CutAt:=[⟨8,[(.normal,[⟨true,4,(.agg api_Rat (.acons (.agg api_Int (.acons (.imm .bool) (.acons .nilS .anil))) (.acons .nilS .anil)))⟩,⟨true,78,(.agg simple_maker (.acons (.own 76 false 42 api_Term) (.acons (.mp 77 simple_face (.int .i64)) .anil)))⟩,⟨false,1,(.imm (.int .i64))⟩,⟨false,4,(.ptr 4 [] api_Rat)⟩]),(.ret,[⟨true,4,(.imm api_Rat)⟩,⟨true,78,(.agg simple_maker (.acons (.own 76 false 42 api_Term) (.acons (.mp 77 simple_face (.int .i64)) .anil)))⟩,⟨false,4,(.ptr 4 [] api_Rat)⟩,⟨false,5,(.imm (.int .i64))⟩])]⟩]
def zU.env (k:Nat):List (Kn P0 G0):=[yx.fn k,zD.fn]
theorem zU.d:distN (loopIds (Tryz.f135.body.getD .skip) 0)=true:=by kernel_rfl
def zU.b (c0:Int→Option (Bool × LI × LI)) (a0:CO) (a1:MP) (a2:Int):Option (CO × MP × Bool × LI × LI × Int):=(bif (decide (((0:Int) ≤ a2)∧(a2 < (((List.length a0):Nat):Int)))) then (bif ((rdL (Ty.zero api_Term) a0 a2).1 == (7:Int)) then (Option.bind (c0 (-(1:Int))) fun y4=>(some (a0,(a1,(y4.1,(y4.2.1,(y4.2.2,(rdL (Ty.zero api_Term) a0 a2).2.1))))))) else (Option.bind (bif ((rdL (Ty.zero api_Term) a0 a2).1 == (5:Int)) then (Option.bind (zD.f a0 (a1,(rdL (Ty.zero api_Term) a0 a2).2.1).1 (a1,(rdL (Ty.zero api_Term) a0 a2).2.1).2) fun y4=>(bif y4.2.2.2 then (some (Sum.inr (y4.2.2.1,(y4.1,(y4.2.1,(rdL (Ty.zero api_Term) a0 a2).2.2.1))))) else (some (Sum.inl (false,(y4.1,(y4.2.1,a2))))))) else (some (Sum.inl (false,(a0,(a1,a2)))))) fun y4=>(Sum.elim (fun y5=>(Option.bind (c0 (1:Int)) fun y6=>(some (y5.2.1,(y5.2.2.1,(y6.1,(y6.2.1,(y6.2.2,y5.2.2.2)))))))) (fun y5=>(some (y5.2.1,(y5.2.2.1,(y5.1.1.1,(y5.1.1.2.1,(y5.1.2.1,y5.2.2.2))))))) y4))) else none)
def zU.f (k:Nat) a0 a1 a2:=zU.b (yx.f k) a0 a1 a2
noncomputable def zU.V a0 a1 a2:=lim fun k=>zU.f k a0 a1 a2
theorem zU.v a0 a1 a2 {y} (h:zU.b yx.V a0 a1 a2=some y):zU.V a0 a1 a2=some y:=Le.v (by unfold zU.f zU.b;repeat (first | with_reducible first | exact Le.const | refine Le.bind ?_ fun _=>?_ | refine Le.cond ?_ ?_ | refine Le.elim (fun _=>?_) fun _=>?_ | exact Le.of rfl)) h
theorem zU.e (k:Nat) (x:Tup (sigTys zU.hd)):fnK T0 (zU.env k) [] zU.C Tryz.f135 2 79 zU.hd zU.os x=zU.f k x.1 x.2.1 x.2.2:=by kernel_rfl
def zU.fn (k:Nat):Kn P0 G0:=⟨135,2,79,zU.hd,2,zU.os,fun x=>zU.f k x.1 x.2.1 x.2.2,contract (T:=T0) (fn:=Tryz.f135) hm0 hT0 (by kernel_rfl) (by kernel_rfl) (L:=[]) (C:=zU.C) (by kernel_rfl) (by decide) rfl (by kernel_rfl) (loops_fn zU.d trivial) (zU.e k),none⟩
def yT.hd:Sig:=[⟨false,0,(.imm api_Int)⟩,⟨false,1,(.imm api_Int)⟩]
def yT.os:List Sig:=[[⟨false,0,(.imm (.int .i64))⟩]]
def yT.C:List CutAt:=[⟨8,[(.normal,[⟨true,2,(.agg api_Int (.acons (.imm .bool) (.acons (.own 6 false 111 (.int .u32)) .anil)))⟩,⟨true,3,(.agg api_Int (.acons (.imm .bool) (.acons (.own 8 false 111 (.int .u32)) .anil)))⟩,⟨false,2,(.ptr 2 [] api_Int)⟩,⟨false,3,(.ptr 3 [] api_Int)⟩]),(.ret,[⟨false,4,(.imm (.int .i64))⟩])]⟩]
def yT.env (k:Nat):List (Kn P0 G0):=[yy.fn k,ye.fn k]
theorem yT.d:distN (loopIds (Tryz.f183.body.getD .skip) 0)=true:=by kernel_rfl
def yT.b (c0:WH→Option (Bool × LI)) (c1:LI→LI→Option Int) (a0:WH) (a1:WH):Option Int:=(Option.bind (c0 a0) fun y3=>(Option.bind (c0 a1) fun y4=>(Option.bind (bif y3.1 then (bif (!y4.1) then (some (Sum.inr (-(1:Int)))) else (bif y4.1 then (bif (!y3.1) then (some (Sum.inr (1:Int))) else (bif y3.1 then (Option.bind (c1 y4.2 y3.2) fun y5=>(some (Sum.inr y5))) else (some (Sum.inl (y3.1,(y3.2,(y4.1,y4.2))))))) else (bif y3.1 then (Option.bind (c1 y4.2 y3.2) fun y5=>(some (Sum.inr y5))) else (some (Sum.inl (y3.1,(y3.2,(y4.1,y4.2)))))))) else (bif y4.1 then (bif (!y3.1) then (some (Sum.inr (1:Int))) else (bif y3.1 then (Option.bind (c1 y4.2 y3.2) fun y5=>(some (Sum.inr y5))) else (some (Sum.inl (y3.1,(y3.2,(y4.1,y4.2))))))) else (bif y3.1 then (Option.bind (c1 y4.2 y3.2) fun y5=>(some (Sum.inr y5))) else (some (Sum.inl (y3.1,(y3.2,(y4.1,y4.2)))))))) fun y5=>(Sum.elim (fun y6=>(Option.bind (c1 y6.2.1 y6.2.2.2) fun y7=>(some y7))) (fun y6=>(some y6)) y5))))
def yT.f (k:Nat) a0 a1:=yT.b (yy.f k) (ye.f k) a0 a1
noncomputable def yT.V a0 a1:=lim fun k=>yT.f k a0 a1
theorem yT.v a0 a1 {y} (h:yT.b yy.V ye.V a0 a1=some y):yT.V a0 a1=some y:=Le.v (by unfold yT.f yT.b;repeat (first | with_reducible first | exact Le.const | refine Le.bind ?_ fun _=>?_ | refine Le.cond ?_ ?_ | refine Le.elim (fun _=>?_) fun _=>?_ | exact Le.of rfl)) h
theorem yT.e (k:Nat) (x:Tup (sigTys yT.hd)):fnK T0 (yT.env k) [] yT.C Tryz.f183 2 76 yT.hd yT.os x=yT.f k x.1 x.2:=by kernel_rfl
def yT.fn (k:Nat):Kn P0 G0:=⟨183,2,76,yT.hd,1,yT.os,fun x=>yT.f k x.1 x.2,contract (T:=T0) (fn:=Tryz.f183) hm0 hT0 (by kernel_rfl) (by kernel_rfl) (L:=[]) (C:=yT.C) (by kernel_rfl) (by decide) rfl (by kernel_rfl) (loops_fn yT.d trivial) (yT.e k),none⟩
def xy.hd:Sig:=[⟨false,0,(.imm api_Rat)⟩]
def xy.os:List Sig:=[[⟨false,0,(.imm (.int .i64))⟩]]
def xy.C:List CutAt:=[]
def xy.env (k:Nat):List (Kn P0 G0):=[yu.fn k,yT.fn k]
theorem xy.d:distN (loopIds (Tryz.f164.body.getD .skip) 0)=true:=by kernel_rfl
def xy.b (c0:RA→Option Bool) (c1:WH→WH→Option Int) (a0:RA):Option Int:=(Option.bind (c0 a0) fun y2=>(bif (!y2) then (some (0:Int)) else (Option.bind (c1 a0.1 (false,(([]:LI),()))) fun y3=>(some y3))))
def xy.f (k:Nat) a0:=xy.b (yu.f k) (yT.f k) a0
noncomputable def xy.V a0:=lim fun k=>xy.f k a0
theorem xy.v a0 {y} (h:xy.b yu.V yT.V a0=some y):xy.V a0=some y:=Le.v (by unfold xy.f xy.b;repeat (first | with_reducible first | exact Le.const | refine Le.bind ?_ fun _=>?_ | refine Le.cond ?_ ?_ | refine Le.elim (fun _=>?_) fun _=>?_ | exact Le.of rfl)) h
theorem xy.e (k:Nat) (x:Tup (sigTys xy.hd)):fnK T0 (xy.env k) [] xy.C Tryz.f164 1 20 xy.hd xy.os x=xy.f k x:=by kernel_rfl
def xy.fn (k:Nat):Kn P0 G0:=⟨164,1,20,xy.hd,1,xy.os,fun x=>xy.f k x,contract (T:=T0) (fn:=Tryz.f164) hm0 hT0 (by kernel_rfl) (by kernel_rfl) (L:=[]) (C:=xy.C) (by kernel_rfl) (by decide) rfl (by kernel_rfl) (loops_fn xy.d trivial) (xy.e k),none⟩
def zd.hd:Sig:=[⟨true,238,(.agg simple_maker (.acons (.own 236 false 42 api_Term) (.acons (.mp 237 simple_face (.int .i64)) .anil)))⟩,⟨false,0,(.ptr 238 [] simple_maker)⟩,⟨false,1,(.imm (.int .i64))⟩,⟨false,2,(.imm (.int .i64))⟩]
def zd.os:List Sig:=[[⟨true,238,(.agg simple_maker (.acons (.own 236 false 42 api_Term) (.acons (.mp 237 simple_face (.int .i64)) .anil)))⟩,⟨false,0,(.imm (.int .i64))⟩]]
def zd.h0:Sig:=[⟨true,238,(.agg simple_maker (.acons (.own 236 false 42 api_Term) (.acons (.mp 237 simple_face (.int .i64)) .anil)))⟩,⟨false,0,(.ptr 238 [] simple_maker)⟩,⟨false,1,(.imm (.int .i64))⟩,⟨false,2,(.imm (.int .i64))⟩,⟨false,30,(.own 30 false 2 (.int .i64))⟩,⟨false,31,(.imm (.int .i64))⟩,⟨false,32,(.imm (.int .i64))⟩]
def zd.o0:Outs:=[((.exit 0),[⟨true,238,(.agg simple_maker (.acons (.own 236 false 42 api_Term) (.acons (.mp 237 simple_face (.int .i64)) .anil)))⟩,⟨false,0,(.ptr 238 [] simple_maker)⟩,⟨false,1,(.imm (.int .i64))⟩,⟨false,2,(.imm (.int .i64))⟩]),(.ret,[⟨true,238,(.agg simple_maker (.acons (.own 236 false 42 api_Term) (.acons (.mp 237 simple_face (.int .i64)) .anil)))⟩,⟨false,6,(.imm (.int .i64))⟩])]
def zd.C:List CutAt:=[⟨24,[(.normal,[⟨true,238,(.agg simple_maker (.acons (.own 236 false 42 api_Term) (.acons (.mp 237 simple_face (.int .i64)) .anil)))⟩,⟨false,0,(.ptr 238 [] simple_maker)⟩,⟨false,1,(.imm (.int .i64))⟩,⟨false,2,(.imm (.int .i64))⟩]),(.ret,[⟨true,238,(.agg simple_maker (.acons (.own 236 false 42 api_Term) (.acons (.mp 237 simple_face (.int .i64)) .anil)))⟩,⟨false,6,(.imm (.int .i64))⟩])]⟩,⟨17,[(.normal,[⟨true,238,(.agg simple_maker (.acons (.own 236 false 42 api_Term) (.acons (.mp 237 simple_face (.int .i64)) .anil)))⟩,⟨true,12,(.imm api_Rat)⟩,⟨false,0,(.ptr 238 [] simple_maker)⟩,⟨false,1,(.imm (.int .i64))⟩,⟨false,2,(.imm (.int .i64))⟩,⟨false,12,(.ptr 12 [] api_Rat)⟩,⟨false,13,(.imm .bool)⟩]),(.ret,[⟨true,238,(.agg simple_maker (.acons (.own 236 false 42 api_Term) (.acons (.mp 237 simple_face (.int .i64)) .anil)))⟩,⟨false,6,(.imm (.int .i64))⟩])]⟩]
def zd.env (rec_simple_maker_mul:CO→MP→Int→Int→Option (CO × MP × Int)) (hrec_simple_maker_mul:Contract P0 G0 56 3 239 zd.hd 1 zd.os (fun x=>rec_simple_maker_mul x.1 x.2.1 x.2.2.1 x.2.2.2)) (k:Nat):List (Kn P0 G0):=[zv.fn k,zr.fn k,zu.fn k,zn.fn k,zQ.fn k,zD.fn,xp.fn k,zk.fn k,zl.fn k,⟨56,3,239,zd.hd,1,zd.os,fun x=>rec_simple_maker_mul x.1 x.2.1 x.2.2.1 x.2.2.2,hrec_simple_maker_mul,none⟩]
theorem zd.d:distN (loopIds (Tryz.f56.body.getD .skip) 0)=true:=by kernel_rfl
def zd.b0 (c0:CO→MP→Int→Int→Option (CO × MP × Bool)) (c1:CO→MP→Int→Int→LI→Int→Int→Option ((CO × MP × Int × Int) ⊕ (CO × MP × Int))) (rec_simple_maker_mul:CO→MP→Int→Int→Option (CO × MP × Int)) (x0:CO) (x1:MP) (x2:Int) (x3:Int) (x4:LI) (x5:Int) (x6:Int):Option ((CO × MP × Int × Int) ⊕ (CO × MP × Int)):=(bif (decide (x6 < x5)) then (bif (decide (((0:Int) ≤ x6)∧(x6 < (((List.length x4):Nat):Int)))) then (Option.bind (c0 x0 (x1,(x2,(rdL (0:Int) x4 x6))).1 (x1,(x2,(rdL (0:Int) x4 x6))).2.1 (x1,(x2,(rdL (0:Int) x4 x6))).2.2) fun y11=>(Option.bind (c0 y11.1 (y11.2.1,(x3,(rdL (0:Int) x4 x6))).1 (y11.2.1,(x3,(rdL (0:Int) x4 x6))).2.1 (y11.2.1,(x3,(rdL (0:Int) x4 x6))).2.2) fun y12=>(bif (!(eqv T140 (y11.2.2 :: (y12.2.2 :: ([]:List Bool))) (false :: (false :: ([]:List Bool))))) then (bif ((rdL false (y11.2.2 :: (y12.2.2 :: ([]:List Bool))) (0:Int)) == ((rdL (0:Int) x4 x6) == (0:Int))) then (some (Sum.inr (y12.1,(y12.2.1,x2)))) else (some (Sum.inr (y12.1,(y12.2.1,x3))))) else (c1 y12.1 y12.2.1 x2 x3 x4 x5 (IntKind.wrap .i64 (x6 + (1:Int))))))) else none) else (some (Sum.inl (x0,(x1,(x2,x3))))))
def zd.l0 (rec_simple_maker_mul:CO→MP→Int→Int→Option (CO × MP × Int)):Nat→CO→MP→Int→Int→LI→Int→Int→Option ((CO × MP × Int × Int) ⊕ (CO × MP × Int))
 | 0,_,_,_,_,_,_,_=>none
 | k + 1,x0,x1,x2,x3,x4,x5,x6=>zd.b0 (zQ.f k) (zd.l0 rec_simple_maker_mul k) rec_simple_maker_mul x0 x1 x2 x3 x4 x5 x6
def zd.L0 (rec_simple_maker_mul:CO→MP→Int→Int→Option (CO × MP × Int)) (k:Nat):LFn:=⟨zd.h0,zd.o0,fun x=>zd.l0 rec_simple_maker_mul k x.1 x.2.1 x.2.2.1 x.2.2.2.1 x.2.2.2.2.1 x.2.2.2.2.2.1 x.2.2.2.2.2.2⟩
theorem zd.r0 (rec_simple_maker_mul:CO→MP→Int→Int→Option (CO × MP × Int)) (hrec_simple_maker_mul:Contract P0 G0 56 3 239 zd.hd 1 zd.os (fun x=>rec_simple_maker_mul x.1 x.2.1 x.2.2.1 x.2.2.2)) (k:Nat) (x:Tup (sigTys zd.h0)):roundK T0 (zd.env rec_simple_maker_mul hrec_simple_maker_mul k) 118 239 [] zd.C (loopOf Tryz.f56 0) 0 zd.h0 zd.o0 (zd.L0 rec_simple_maker_mul k).f x=(zd.L0 rec_simple_maker_mul (k + 1)).f x:=by kernel_rfl
theorem zd.s0 (rec_simple_maker_mul:CO→MP→Int→Int→Option (CO × MP × Int)) (hrec_simple_maker_mul:Contract P0 G0 56 3 239 zd.hd 1 zd.os (fun x=>rec_simple_maker_mul x.1 x.2.1 x.2.2.1 x.2.2.2)) (k:Nat):LoopSound P0 G0 118 239 (sigPins zd.hd) (zd.L0 rec_simple_maker_mul k) (loopOf Tryz.f56 0):=loop_rounds (T:=T0) hm0 hT0 (env:=fun k=>(zd.env rec_simple_maker_mul hrec_simple_maker_mul k)) (nh:=239) (pn:=sigPins zd.hd) (L:=fun k=>[]) (C:=zd.C) (by kernel_rfl) (hd:=zd.h0) (os:=zd.o0) (by kernel_rfl) (by kernel_rfl) (by kernel_rfl) (g:=fun k=>(zd.L0 rec_simple_maker_mul k).f) (fun k=>loops_in zd.d trivial) (fun _=>rfl) (fun k x=>zd.r0 rec_simple_maker_mul hrec_simple_maker_mul k x) k
def zd.b (c0:CO→MP→Int→Int→Option (CO × MP × Int × Bool)) (c1:CO→MP→Int→Int→LI→Int→Int→Option ((CO × MP × Int × Int) ⊕ (CO × MP × Int))) (c2:RA→RA→Option (Bool × LI × LI × Int)) (c3:CO→MP→RA→Option (CO × MP × Int)) (c4:CO→MP→TE→Option (CO × MP × Int)) (rec_simple_maker_mul:CO→MP→Int→Int→Option (CO × MP × Int)) (a0:CO) (a1:MP) (a2:Int) (a3:Int):Option (CO × MP × Int):=(Option.bind (c0 a0 (a1,(a2,a3)).1 (a1,(a2,a3)).2.1 (a1,(a2,a3)).2.2) fun y7=>(bif y7.2.2.2 then (some (y7.1,(y7.2.1,y7.2.2.1))) else (Option.bind (c1 y7.1 (y7.2.1,(a2,(a3,(((0:Int) :: ((1:Int) :: ([]:LI))),((((List.length ((0:Int) :: ((1:Int) :: ([]:LI)))):Nat):Int),(0:Int)))))).1 (y7.2.1,(a2,(a3,(((0:Int) :: ((1:Int) :: ([]:LI))),((((List.length ((0:Int) :: ((1:Int) :: ([]:LI)))):Nat):Int),(0:Int)))))).2.1 (y7.2.1,(a2,(a3,(((0:Int) :: ((1:Int) :: ([]:LI))),((((List.length ((0:Int) :: ((1:Int) :: ([]:LI)))):Nat):Int),(0:Int)))))).2.2.1 (y7.2.1,(a2,(a3,(((0:Int) :: ((1:Int) :: ([]:LI))),((((List.length ((0:Int) :: ((1:Int) :: ([]:LI)))):Nat):Int),(0:Int)))))).2.2.2.1 (y7.2.1,(a2,(a3,(((0:Int) :: ((1:Int) :: ([]:LI))),((((List.length ((0:Int) :: ((1:Int) :: ([]:LI)))):Nat):Int),(0:Int)))))).2.2.2.2.1 (y7.2.1,(a2,(a3,(((0:Int) :: ((1:Int) :: ([]:LI))),((((List.length ((0:Int) :: ((1:Int) :: ([]:LI)))):Nat):Int),(0:Int)))))).2.2.2.2.2) fun y8=>(Sum.elim (fun y9=>(Option.bind (zD.f y9.1 (y9.2.1,y9.2.2.1).1 (y9.2.1,y9.2.2.1).2) fun y10=>(Option.bind (Option.bind (zD.f y10.1 (y10.2.1,y9.2.2.2).1 (y10.2.1,y9.2.2.2).2) fun y11=>(bif y11.2.2.2 then (bif (!y10.2.2.2) then (Option.bind (rec_simple_maker_mul y11.1 (y11.2.1,(y9.2.2.2,y9.2.2.1)).1 (y11.2.1,(y9.2.2.2,y9.2.2.1)).2.1 (y11.2.1,(y9.2.2.2,y9.2.2.1)).2.2) fun y12=>(some (Sum.inr (y12.1,(y12.2.1,y12.2.2))))) else (some (Sum.inl (y11.1,(y11.2.1,(y10.2.2.1,(y9.2.2.1,(y9.2.2.2,y10.2.2.2)))))))) else (some (Sum.inl (y11.1,(y11.2.1,(y10.2.2.1,(y9.2.2.1,(y9.2.2.2,y10.2.2.2))))))))) fun y11=>(Sum.elim (fun y12=>(Option.bind (bif (decide (((0:Int) ≤ y12.2.2.2.2.1)∧(y12.2.2.2.2.1 < (((List.length y12.1):Nat):Int)))) then (bif y12.2.2.2.2.2 then (bif ((rdL (Ty.zero api_Term) y12.1 y12.2.2.2.2.1).1 == (5:Int)) then (Option.bind (zD.f y12.1 (y12.2.1,(rdL (Ty.zero api_Term) y12.1 y12.2.2.2.2.1).2.1).1 (y12.2.1,(rdL (Ty.zero api_Term) y12.1 y12.2.2.2.2.1).2.1).2) fun y13=>(bif y13.2.2.2 then (Option.bind (c2 y12.2.2.1 y13.2.2.1) fun y14=>(bif (y14.2.2.2 == (0:Int)) then (Option.bind (c3 y13.1 (y13.2.1,((y14.1,(y14.2.1,())),(y14.2.2.1,()))).1 (y13.2.1,((y14.1,(y14.2.1,())),(y14.2.2.1,()))).2) fun y15=>(Option.bind (rec_simple_maker_mul y15.1 (y15.2.1,(y15.2.2,(rdL (Ty.zero api_Term) y12.1 y12.2.2.2.2.1).2.2.1)).1 (y15.2.1,(y15.2.2,(rdL (Ty.zero api_Term) y12.1 y12.2.2.2.2.1).2.2.1)).2.1 (y15.2.1,(y15.2.2,(rdL (Ty.zero api_Term) y12.1 y12.2.2.2.2.1).2.2.1)).2.2) fun y16=>(some (Sum.inr (y16.1,(y16.2.1,y16.2.2)))))) else (some (Sum.inl (y13.1,(y13.2.1,(y12.2.2.2.1,y12.2.2.2.2.1))))))) else (some (Sum.inl (y13.1,(y13.2.1,(y12.2.2.2.1,y12.2.2.2.2.1))))))) else (some (Sum.inl (y12.1,(y12.2.1,(y12.2.2.2.1,y12.2.2.2.2.1)))))) else (some (Sum.inl (y12.1,(y12.2.1,(y12.2.2.2.1,y12.2.2.2.2.1)))))) else none) fun y13=>(Sum.elim (fun y14=>(Option.bind (c4 y14.1 (y14.2.1,((5:Int),(y14.2.2.1,(y14.2.2.2,((0:Int),(((false,(([]:LI),())),(([]:LI),())),())))))).1 (y14.2.1,((5:Int),(y14.2.2.1,(y14.2.2.2,((0:Int),(((false,(([]:LI),())),(([]:LI),())),())))))).2) fun y15=>(some (y15.1,(y15.2.1,y15.2.2))))) (fun y14=>(some (y14.1,(y14.2.1,y14.2.2)))) y13))) (fun y12=>(some (y12.1,(y12.2.1,y12.2.2)))) y11)))) (fun y9=>(some (y9.1,(y9.2.1,y9.2.2)))) y8))))
def zd.F (rec_simple_maker_mul:CO→MP→Int→Int→Option (CO × MP × Int)) (k:Nat) (a0:CO) (a1:MP) (a2:Int) (a3:Int):Option (CO × MP × Int):=zd.b (zr.f k) (zd.l0 rec_simple_maker_mul k) (xp.f k) (zk.f k) (zl.f k) rec_simple_maker_mul a0 a1 a2 a3
theorem zd.e (rec_simple_maker_mul:CO→MP→Int→Int→Option (CO × MP × Int)) (hrec_simple_maker_mul:Contract P0 G0 56 3 239 zd.hd 1 zd.os (fun x=>rec_simple_maker_mul x.1 x.2.1 x.2.2.1 x.2.2.2)) (k:Nat) (x:Tup (sigTys zd.hd)):fnK T0 (zd.env rec_simple_maker_mul hrec_simple_maker_mul k) [⟨0,zd.L0 rec_simple_maker_mul k⟩] zd.C Tryz.f56 3 239 zd.hd zd.os x=zd.F rec_simple_maker_mul k x.1 x.2.1 x.2.2.1 x.2.2.2:=by kernel_rfl
def zd.all:Nat→(CO→MP→Int→Int→Option (CO × MP × Int))
 | 0=>fun _ _ _ _=>none
 | k + 1=>zd.F (zd.all k) k
def zd.f (k:Nat):CO→MP→Int→Int→Option (CO × MP × Int):=(zd.all k)
noncomputable def zd.V a0 a1 a2 a3:=lim fun k=>zd.f k a0 a1 a2 a3
noncomputable def zd.V0 x0 x1 x2 x3 x4 x5 x6:=lim2 fun j k=>zd.l0 (zd.f j) k x0 x1 x2 x3 x4 x5 x6
theorem zd.v0 x0 x1 x2 x3 x4 x5 x6 {y} (h:zd.b0 zQ.V zd.V0 zd.V x0 x1 x2 x3 x4 x5 x6=some y):zd.V0 x0 x1 x2 x3 x4 x5 x6=some y:=Le2.v (.succ (by unfold zd.l0 zd.b0;repeat (first | with_reducible exact Le2.const | with_reducible refine Le2.bind ?_ fun _=>?_ | with_reducible refine Le2.cond ?_ ?_ | with_reducible refine Le2.elim (fun _=>?_) fun _=>?_ | exact Le2.of rfl | exact Le2.fst (Le.of rfl) | exact Le2.snd (Le.of rfl)))) h
theorem zd.d0_ (x0:CO) (x1:MP) (x2:Int) (x3:Int) (x4:LI) (x5:Int) (x6:Int):Le (zd.V0 x0 x1 x2 x3 x4 x5 x6) fun k=>zd.l0 (zd.f k) k x0 x1 x2 x3 x4 x5 x6:=Le2.diag (p:=fun j k=>zd.l0 (zd.f j) k x0 x1 x2 x3 x4 x5 x6) (.of rfl)
theorem zd.v a0 a1 a2 a3 {y} (h:zd.b zr.V zd.V0 xp.V zk.V zl.V zd.V a0 a1 a2 a3=some y):zd.V a0 a1 a2 a3=some y:=Le.v (.succ (by show Le _ fun k=>zd.F (zd.f k) k a0 a1 a2 a3;unfold zd.F zd.b;repeat (first | with_reducible first | exact Le.const | refine Le.bind ?_ fun _=>?_ | refine Le.cond ?_ ?_ | refine Le.elim (fun _=>?_) fun _=>?_ | exact zd.d0_ _ _ _ _ _ _ _ | exact Le.of rfl))) h
theorem zd.c:∀ k,Contract P0 G0 56 3 239 zd.hd 1 zd.os (fun x=>zd.f k x.1 x.2.1 x.2.2.1 x.2.2.2)
 | 0=>⟨by kernel_rfl,fun _ _ _ _ _ _ _ _ _ h=>by cases h⟩
 | k + 1=>contract (T:=T0) (fn:=Tryz.f56) hm0 hT0 (by kernel_rfl) (by kernel_rfl) (env:=zd.env (zd.f k) (zd.c k) k) (L:=[⟨0,zd.L0 (zd.f k) k⟩]) (C:=zd.C) (by kernel_rfl) (by decide) rfl (by kernel_rfl) (loops_fn zd.d ⟨zd.s0 (zd.f k)  (zd.c k) k,trivial⟩) (zd.e (zd.f k) (zd.c k) k)
def zd.fn (k:Nat):Kn P0 G0:=⟨56,3,239,zd.hd,1,zd.os,fun x=>zd.f k x.1 x.2.1 x.2.2.1 x.2.2.2,(zd.c k),none⟩
def zH.hd:Sig:=[⟨true,52,(.agg simple_maker (.acons (.own 50 false 42 api_Term) (.acons (.mp 51 simple_face (.int .i64)) .anil)))⟩,⟨false,0,(.ptr 52 [] simple_maker)⟩,⟨false,1,(.imm api_Rat)⟩,⟨false,2,(.imm (.int .i64))⟩]
def zH.os:List Sig:=[[⟨true,52,(.agg simple_maker (.acons (.own 50 false 42 api_Term) (.acons (.mp 51 simple_face (.int .i64)) .anil)))⟩,⟨false,0,(.imm (.int .i64))⟩]]
def zH.C:List CutAt:=[]
def zH.env (k:Nat):List (Kn P0 G0):=[xy.fn k,zk.fn k,yx.fn k,xb.fn k,zd.fn k]
theorem zH.d:distN (loopIds (Tryz.f136.body.getD .skip) 0)=true:=by kernel_rfl
def zH.b (c0:RA→Option Int) (c1:CO→MP→RA→Option (CO × MP × Int)) (c2:Int→Option (Bool × LI × LI)) (c3:RA→RA→Option Bool) (c4:CO→MP→Int→Int→Option (CO × MP × Int)) (a0:CO) (a1:MP) (a2:RA) (a3:Int):Option (CO × MP × Int):=(Option.bind (c0 a2) fun y5=>(bif (y5 == (0:Int)) then (Option.bind (c1 a0 (a1,a2).1 (a1,a2).2) fun y6=>(some (y6.1,(y6.2.1,y6.2.2)))) else (Option.bind (c2 (1:Int)) fun y6=>(Option.bind (c3 a2 ((y6.1,(y6.2.1,())),(y6.2.2,()))) fun y7=>(bif y7 then (some (a0,(a1,a3))) else (Option.bind (c1 a0 (a1,a2).1 (a1,a2).2) fun y8=>(Option.bind (c4 y8.1 (y8.2.1,(y8.2.2,a3)).1 (y8.2.1,(y8.2.2,a3)).2.1 (y8.2.1,(y8.2.2,a3)).2.2) fun y9=>(some (y9.1,(y9.2.1,y9.2.2))))))))))
def zH.f (k:Nat) a0 a1 a2 a3:=zH.b (xy.f k) (zk.f k) (yx.f k) (xb.f k) (zd.f k) a0 a1 a2 a3
noncomputable def zH.V a0 a1 a2 a3:=lim fun k=>zH.f k a0 a1 a2 a3
theorem zH.v a0 a1 a2 a3 {y} (h:zH.b xy.V zk.V yx.V xb.V zd.V a0 a1 a2 a3=some y):zH.V a0 a1 a2 a3=some y:=Le.v (by unfold zH.f zH.b;repeat (first | with_reducible first | exact Le.const | refine Le.bind ?_ fun _=>?_ | refine Le.cond ?_ ?_ | refine Le.elim (fun _=>?_) fun _=>?_ | exact Le.of rfl)) h
theorem zH.e (k:Nat) (x:Tup (sigTys zH.hd)):fnK T0 (zH.env k) [] zH.C Tryz.f136 3 53 zH.hd zH.os x=zH.f k x.1 x.2.1 x.2.2.1 x.2.2.2:=by kernel_rfl
def zH.fn (k:Nat):Kn P0 G0:=⟨136,3,53,zH.hd,1,zH.os,fun x=>zH.f k x.1 x.2.1 x.2.2.1 x.2.2.2,contract (T:=T0) (fn:=Tryz.f136) hm0 hT0 (by kernel_rfl) (by kernel_rfl) (L:=[]) (C:=zH.C) (by kernel_rfl) (by decide) rfl (by kernel_rfl) (loops_fn zH.d trivial) (zH.e k),none⟩
def zw.hd:Sig:=[⟨true,112,(.agg simple_maker (.acons (.own 110 false 42 api_Term) (.acons (.mp 111 simple_face (.int .i64)) .anil)))⟩,⟨false,0,(.ptr 112 [] simple_maker)⟩,⟨false,1,(.imm (.int .i64))⟩,⟨false,2,(.imm (.int .i64))⟩,⟨false,3,(.fn 76)⟩]
def zw.os:List Sig:=[[⟨true,112,(.agg simple_maker (.acons (.own 110 false 42 api_Term) (.acons (.mp 111 simple_face (.int .i64)) .anil)))⟩,⟨false,0,(.imm (.int .i64))⟩,⟨false,1,(.imm .bool)⟩]]
def zw.C:List CutAt:=[]
def zw.env (k:Nat):List (Kn P0 G0):=[zU.fn k,zH.fn k,xh.fn k]
theorem zw.d:distN (loopIds (Tryz.f99.body.getD .skip) 0)=true:=by kernel_rfl
def zw.b (c0:CO→MP→Int→Option (CO × MP × Bool × LI × LI × Int)) (c1:RA→RA→Option (Bool × LI × LI × Int)) (c2:CO→MP→RA→Int→Option (CO × MP × Int)) (a0:CO) (a1:MP) (a2:Int) (a3:Int):Option (CO × MP × Int × Bool):=(Option.bind (c0 a0 (a1,a2).1 (a1,a2).2) fun y5=>(Option.bind (c0 y5.1 (y5.2.1,a3).1 (y5.2.1,a3).2) fun y6=>(bif (y5.2.2.2.2.2 != y6.2.2.2.2.2) then (some (y6.1,(y6.2.1,((0:Int),false)))) else (bif (decide (((0:Int) ≤ y5.2.2.2.2.2)∧(y5.2.2.2.2.2 < (((List.length y6.1):Nat):Int)))) then (bif ((rdL (Ty.zero api_Term) y6.1 y5.2.2.2.2.2).1 == (1:Int)) then (some (y6.1,(y6.2.1,((0:Int),false)))) else (Option.bind (c1 ((y5.2.2.1,(y5.2.2.2.1,())),(y5.2.2.2.2.1,())) ((y6.2.2.1,(y6.2.2.2.1,())),(y6.2.2.2.2.1,()))) fun y7=>(bif (y7.2.2.2 != (0:Int)) then (some (y6.1,(y6.2.1,((0:Int),false)))) else (Option.bind (c2 y6.1 (y6.2.1,(((y7.1,(y7.2.1,())),(y7.2.2.1,())),y5.2.2.2.2.2)).1 (y6.2.1,(((y7.1,(y7.2.1,())),(y7.2.2.1,())),y5.2.2.2.2.2)).2.1 (y6.2.1,(((y7.1,(y7.2.1,())),(y7.2.2.1,())),y5.2.2.2.2.2)).2.2) fun y8=>(some (y8.1,(y8.2.1,(y8.2.2,true)))))))) else none))))
def zw.f (k:Nat) a0 a1 a2 a3:=zw.b (zU.f k) (xh.f k) (zH.f k) a0 a1 a2 a3
noncomputable def zw.V a0 a1 a2 a3:=lim fun k=>zw.f k a0 a1 a2 a3
theorem zw.v a0 a1 a2 a3 {y} (h:zw.b zU.V xh.V zH.V a0 a1 a2 a3=some y):zw.V a0 a1 a2 a3=some y:=Le.v (by unfold zw.f zw.b;repeat (first | with_reducible first | exact Le.const | refine Le.bind ?_ fun _=>?_ | refine Le.cond ?_ ?_ | refine Le.elim (fun _=>?_) fun _=>?_ | exact Le.of rfl)) h
theorem zw.e (k:Nat) (x:Tup (sigTys zw.hd)):fnK T0 (zw.env k) [] zw.C Tryz.f99 4 113 zw.hd zw.os x=zw.f k x.1 x.2.1 x.2.2.1 x.2.2.2:=by kernel_rfl
def zw.fn (k:Nat):Kn P0 G0:=⟨99,4,113,zw.hd,2,zw.os,fun x=>zw.f k x.1 x.2.1 x.2.2.1 x.2.2.2,contract (T:=T0) (fn:=Tryz.f99) hm0 hT0 (by kernel_rfl) (by kernel_rfl) (L:=[]) (C:=zw.C) (by kernel_rfl) (by decide) rfl (by kernel_rfl) (loops_fn zw.d trivial) (zw.e k),none⟩
def zy.hd:Sig:=[⟨true,112,(.agg simple_maker (.acons (.own 110 false 42 api_Term) (.acons (.mp 111 simple_face (.int .i64)) .anil)))⟩,⟨false,0,(.ptr 112 [] simple_maker)⟩,⟨false,1,(.imm (.int .i64))⟩,⟨false,2,(.imm (.int .i64))⟩,⟨false,3,(.fn 77)⟩]
def zy.os:List Sig:=[[⟨true,112,(.agg simple_maker (.acons (.own 110 false 42 api_Term) (.acons (.mp 111 simple_face (.int .i64)) .anil)))⟩,⟨false,0,(.imm (.int .i64))⟩,⟨false,1,(.imm .bool)⟩]]
def zy.C:List CutAt:=[]
def zy.env (k:Nat):List (Kn P0 G0):=[zU.fn k,zH.fn k,xu.fn k]
theorem zy.d:distN (loopIds (Tryz.f99.body.getD .skip) 0)=true:=by kernel_rfl
def zy.b (c0:CO→MP→Int→Option (CO × MP × Bool × LI × LI × Int)) (c1:RA→RA→Option (Bool × LI × LI × Int)) (c2:CO→MP→RA→Int→Option (CO × MP × Int)) (a0:CO) (a1:MP) (a2:Int) (a3:Int):Option (CO × MP × Int × Bool):=(Option.bind (c0 a0 (a1,a2).1 (a1,a2).2) fun y5=>(Option.bind (c0 y5.1 (y5.2.1,a3).1 (y5.2.1,a3).2) fun y6=>(bif (y5.2.2.2.2.2 != y6.2.2.2.2.2) then (some (y6.1,(y6.2.1,((0:Int),false)))) else (bif (decide (((0:Int) ≤ y5.2.2.2.2.2)∧(y5.2.2.2.2.2 < (((List.length y6.1):Nat):Int)))) then (bif ((rdL (Ty.zero api_Term) y6.1 y5.2.2.2.2.2).1 == (1:Int)) then (some (y6.1,(y6.2.1,((0:Int),false)))) else (Option.bind (c1 ((y5.2.2.1,(y5.2.2.2.1,())),(y5.2.2.2.2.1,())) ((y6.2.2.1,(y6.2.2.2.1,())),(y6.2.2.2.2.1,()))) fun y7=>(bif (y7.2.2.2 != (0:Int)) then (some (y6.1,(y6.2.1,((0:Int),false)))) else (Option.bind (c2 y6.1 (y6.2.1,(((y7.1,(y7.2.1,())),(y7.2.2.1,())),y5.2.2.2.2.2)).1 (y6.2.1,(((y7.1,(y7.2.1,())),(y7.2.2.1,())),y5.2.2.2.2.2)).2.1 (y6.2.1,(((y7.1,(y7.2.1,())),(y7.2.2.1,())),y5.2.2.2.2.2)).2.2) fun y8=>(some (y8.1,(y8.2.1,(y8.2.2,true)))))))) else none))))
def zy.f (k:Nat) a0 a1 a2 a3:=zy.b (zU.f k) (xu.f k) (zH.f k) a0 a1 a2 a3
noncomputable def zy.V a0 a1 a2 a3:=lim fun k=>zy.f k a0 a1 a2 a3
theorem zy.v a0 a1 a2 a3 {y} (h:zy.b zU.V xu.V zH.V a0 a1 a2 a3=some y):zy.V a0 a1 a2 a3=some y:=Le.v (by unfold zy.f zy.b;repeat (first | with_reducible first | exact Le.const | refine Le.bind ?_ fun _=>?_ | refine Le.cond ?_ ?_ | refine Le.elim (fun _=>?_) fun _=>?_ | exact Le.of rfl)) h
theorem zy.e (k:Nat) (x:Tup (sigTys zy.hd)):fnK T0 (zy.env k) [] zy.C Tryz.f99 4 113 zy.hd zy.os x=zy.f k x.1 x.2.1 x.2.2.1 x.2.2.2:=by kernel_rfl
def zy.fn (k:Nat):Kn P0 G0:=⟨99,4,113,zy.hd,2,zy.os,fun x=>zy.f k x.1 x.2.1 x.2.2.1 x.2.2.2,contract (T:=T0) (fn:=Tryz.f99) hm0 hT0 (by kernel_rfl) (by kernel_rfl) (L:=[]) (C:=zy.C) (by kernel_rfl) (by decide) rfl (by kernel_rfl) (loops_fn zy.d trivial) (zy.e k),none⟩
def zV.hd:Sig:=[⟨true,86,(.agg simple_maker (.acons (.own 84 false 42 api_Term) (.acons (.mp 85 simple_face (.int .i64)) .anil)))⟩,⟨false,0,(.ptr 86 [] simple_maker)⟩,⟨false,1,(.imm (.int .i64))⟩,⟨false,2,(.imm (.int .i64))⟩]
def zV.os:List Sig:=[[⟨true,86,(.agg simple_maker (.acons (.own 84 false 42 api_Term) (.acons (.mp 85 simple_face (.int .i64)) .anil)))⟩,⟨false,0,(.imm (.int .i64))⟩]]
def zV.C:List CutAt:=[]
def zV.env (k:Nat):List (Kn P0 G0):=[zv.fn k,zr.fn k,zu.fn k,zn.fn k,zQ.fn k,zy.fn k,zw.fn k,zl.fn k]
theorem zV.d:distN (loopIds (Tryz.f54.body.getD .skip) 0)=true:=by kernel_rfl
def zV.b (c0:CO→MP→Int→Int→Option (CO × MP × Int × Bool)) (c1:CO→MP→Int→Int→Option (CO × MP × Bool)) (c2:CO→MP→Int→Int→Option (CO × MP × Int × Bool)) (c3:CO→MP→TE→Option (CO × MP × Int)) (a0:CO) (a1:MP) (a2:Int) (a3:Int):Option (CO × MP × Int):=(Option.bind (c0 a0 (a1,(a2,a3)).1 (a1,(a2,a3)).2.1 (a1,(a2,a3)).2.2) fun y5=>(bif y5.2.2.2 then (some (y5.1,(y5.2.1,y5.2.2.1))) else (Option.bind (c1 y5.1 (y5.2.1,(a2,(0:Int))).1 (y5.2.1,(a2,(0:Int))).2.1 (y5.2.1,(a2,(0:Int))).2.2) fun y6=>(bif y6.2.2 then (some (y6.1,(y6.2.1,a3))) else (Option.bind (c1 y6.1 (y6.2.1,(a3,(0:Int))).1 (y6.2.1,(a3,(0:Int))).2.1 (y6.2.1,(a3,(0:Int))).2.2) fun y7=>(bif y7.2.2 then (some (y7.1,(y7.2.1,a2))) else (Option.bind (c2 y7.1 (y7.2.1,(a2,a3)).1 (y7.2.1,(a2,a3)).2.1 (y7.2.1,(a2,a3)).2.2) fun y8=>(bif y8.2.2.2 then (some (y8.1,(y8.2.1,y8.2.2.1))) else (Option.bind (c3 y8.1 (y8.2.1,((3:Int),(a2,(a3,((0:Int),(((false,(([]:LI),())),(([]:LI),())),())))))).1 (y8.2.1,((3:Int),(a2,(a3,((0:Int),(((false,(([]:LI),())),(([]:LI),())),())))))).2) fun y9=>(some (y9.1,(y9.2.1,y9.2.2))))))))))))
def zV.f (k:Nat) a0 a1 a2 a3:=zV.b (zn.f k) (zQ.f k) (zw.f k) (zl.f k) a0 a1 a2 a3
noncomputable def zV.V a0 a1 a2 a3:=lim fun k=>zV.f k a0 a1 a2 a3
theorem zV.v a0 a1 a2 a3 {y} (h:zV.b zn.V zQ.V zw.V zl.V a0 a1 a2 a3=some y):zV.V a0 a1 a2 a3=some y:=Le.v (by unfold zV.f zV.b;repeat (first | with_reducible first | exact Le.const | refine Le.bind ?_ fun _=>?_ | refine Le.cond ?_ ?_ | refine Le.elim (fun _=>?_) fun _=>?_ | exact Le.of rfl)) h
theorem zV.e (k:Nat) (x:Tup (sigTys zV.hd)):fnK T0 (zV.env k) [] zV.C Tryz.f54 3 87 zV.hd zV.os x=zV.f k x.1 x.2.1 x.2.2.1 x.2.2.2:=by kernel_rfl
def zV.fn (k:Nat):Kn P0 G0:=⟨54,3,87,zV.hd,1,zV.os,fun x=>zV.f k x.1 x.2.1 x.2.2.1 x.2.2.2,contract (T:=T0) (fn:=Tryz.f54) hm0 hT0 (by kernel_rfl) (by kernel_rfl) (L:=[]) (C:=zV.C) (by kernel_rfl) (by decide) rfl (by kernel_rfl) (loops_fn zV.d trivial) (zV.e k),none⟩
def zW.hd:Sig:=[⟨true,90,(.agg simple_maker (.acons (.own 88 false 42 api_Term) (.acons (.mp 89 simple_face (.int .i64)) .anil)))⟩,⟨false,0,(.ptr 90 [] simple_maker)⟩,⟨false,1,(.imm (.int .i64))⟩,⟨false,2,(.imm (.int .i64))⟩]
def zW.os:List Sig:=[[⟨true,90,(.agg simple_maker (.acons (.own 88 false 42 api_Term) (.acons (.mp 89 simple_face (.int .i64)) .anil)))⟩,⟨false,0,(.imm (.int .i64))⟩]]
def zW.C:List CutAt:=[]
def zW.env (k:Nat):List (Kn P0 G0):=[zv.fn k,zr.fn k,zu.fn k,zn.fn k,zQ.fn k,yc.fn k,zy.fn k,zw.fn k,zl.fn k]
theorem zW.d:distN (loopIds (Tryz.f55.body.getD .skip) 0)=true:=by kernel_rfl
def zW.b (c0:CO→MP→Int→Int→Option (CO × MP × Int × Bool)) (c1:CO→MP→Int→Int→Option (CO × MP × Bool)) (c2:CO→MP→Int→Option (CO × MP × Int)) (c3:CO→MP→Int→Int→Option (CO × MP × Int × Bool)) (c4:CO→MP→TE→Option (CO × MP × Int)) (a0:CO) (a1:MP) (a2:Int) (a3:Int):Option (CO × MP × Int):=(Option.bind (c0 a0 (a1,(a2,a3)).1 (a1,(a2,a3)).2.1 (a1,(a2,a3)).2.2) fun y5=>(bif y5.2.2.2 then (some (y5.1,(y5.2.1,y5.2.2.1))) else (Option.bind (c1 y5.1 (y5.2.1,(a3,(0:Int))).1 (y5.2.1,(a3,(0:Int))).2.1 (y5.2.1,(a3,(0:Int))).2.2) fun y6=>(bif y6.2.2 then (some (y6.1,(y6.2.1,a2))) else (Option.bind (c1 y6.1 (y6.2.1,(a2,(0:Int))).1 (y6.2.1,(a2,(0:Int))).2.1 (y6.2.1,(a2,(0:Int))).2.2) fun y7=>(bif y7.2.2 then (Option.bind (c2 y7.1 (y7.2.1,a3).1 (y7.2.1,a3).2) fun y8=>(some (y8.1,(y8.2.1,y8.2.2)))) else (Option.bind (c3 y7.1 (y7.2.1,(a2,a3)).1 (y7.2.1,(a2,a3)).2.1 (y7.2.1,(a2,a3)).2.2) fun y8=>(bif y8.2.2.2 then (some (y8.1,(y8.2.1,y8.2.2.1))) else (Option.bind (c4 y8.1 (y8.2.1,((4:Int),(a2,(a3,((0:Int),(((false,(([]:LI),())),(([]:LI),())),())))))).1 (y8.2.1,((4:Int),(a2,(a3,((0:Int),(((false,(([]:LI),())),(([]:LI),())),())))))).2) fun y9=>(some (y9.1,(y9.2.1,y9.2.2))))))))))))
def zW.f (k:Nat) a0 a1 a2 a3:=zW.b (zu.f k) (zQ.f k) (yc.f k) (zy.f k) (zl.f k) a0 a1 a2 a3
noncomputable def zW.V a0 a1 a2 a3:=lim fun k=>zW.f k a0 a1 a2 a3
theorem zW.v a0 a1 a2 a3 {y} (h:zW.b zu.V zQ.V yc.V zy.V zl.V a0 a1 a2 a3=some y):zW.V a0 a1 a2 a3=some y:=Le.v (by unfold zW.f zW.b;repeat (first | with_reducible first | exact Le.const | refine Le.bind ?_ fun _=>?_ | refine Le.cond ?_ ?_ | refine Le.elim (fun _=>?_) fun _=>?_ | exact Le.of rfl)) h
theorem zW.e (k:Nat) (x:Tup (sigTys zW.hd)):fnK T0 (zW.env k) [] zW.C Tryz.f55 3 91 zW.hd zW.os x=zW.f k x.1 x.2.1 x.2.2.1 x.2.2.2:=by kernel_rfl
def zW.fn (k:Nat):Kn P0 G0:=⟨55,3,91,zW.hd,1,zW.os,fun x=>zW.f k x.1 x.2.1 x.2.2.1 x.2.2.2,contract (T:=T0) (fn:=Tryz.f55) hm0 hT0 (by kernel_rfl) (by kernel_rfl) (L:=[]) (C:=zW.C) (by kernel_rfl) (by decide) rfl (by kernel_rfl) (loops_fn zW.d trivial) (zW.e k),none⟩
def yf.hd:Sig:=[⟨true,66,(.agg simple_maker (.acons (.own 64 false 42 api_Term) (.acons (.mp 65 simple_face (.int .i64)) .anil)))⟩,⟨false,0,(.ptr 66 [] simple_maker)⟩,⟨false,1,(.imm (.int .i64))⟩,⟨false,2,(.imm (.int .i64))⟩]
def yf.os:List Sig:=[[⟨true,66,(.agg simple_maker (.acons (.own 64 false 42 api_Term) (.acons (.mp 65 simple_face (.int .i64)) .anil)))⟩,⟨false,0,(.imm (.int .i64))⟩]]
def yf.C:List CutAt:=[]
def yf.env (k:Nat):List (Kn P0 G0):=[zv.fn k,zr.fn k,zu.fn k,zn.fn k,zQ.fn k,zl.fn k]
theorem yf.d:distN (loopIds (Tryz.f57.body.getD .skip) 0)=true:=by kernel_rfl
def yf.b (c0:CO→MP→Int→Int→Option (CO × MP × Int × Bool)) (c1:CO→MP→Int→Int→Option (CO × MP × Bool)) (c2:CO→MP→TE→Option (CO × MP × Int)) (a0:CO) (a1:MP) (a2:Int) (a3:Int):Option (CO × MP × Int):=(Option.bind (c0 a0 (a1,(a2,a3)).1 (a1,(a2,a3)).2.1 (a1,(a2,a3)).2.2) fun y5=>(bif y5.2.2.2 then (some (y5.1,(y5.2.1,y5.2.2.1))) else (Option.bind (c1 y5.1 (y5.2.1,(a3,(1:Int))).1 (y5.2.1,(a3,(1:Int))).2.1 (y5.2.1,(a3,(1:Int))).2.2) fun y6=>(bif y6.2.2 then (some (y6.1,(y6.2.1,a2))) else (Option.bind (c1 y6.1 (y6.2.1,(a2,(0:Int))).1 (y6.2.1,(a2,(0:Int))).2.1 (y6.2.1,(a2,(0:Int))).2.2) fun y7=>(bif y7.2.2 then (some (y7.1,(y7.2.1,a2))) else (Option.bind (c2 y7.1 (y7.2.1,((6:Int),(a2,(a3,((0:Int),(((false,(([]:LI),())),(([]:LI),())),())))))).1 (y7.2.1,((6:Int),(a2,(a3,((0:Int),(((false,(([]:LI),())),(([]:LI),())),())))))).2) fun y8=>(some (y8.1,(y8.2.1,y8.2.2))))))))))
def yf.f (k:Nat) a0 a1 a2 a3:=yf.b (zv.f k) (zQ.f k) (zl.f k) a0 a1 a2 a3
noncomputable def yf.V a0 a1 a2 a3:=lim fun k=>yf.f k a0 a1 a2 a3
theorem yf.v a0 a1 a2 a3 {y} (h:yf.b zv.V zQ.V zl.V a0 a1 a2 a3=some y):yf.V a0 a1 a2 a3=some y:=Le.v (by unfold yf.f yf.b;repeat (first | with_reducible first | exact Le.const | refine Le.bind ?_ fun _=>?_ | refine Le.cond ?_ ?_ | refine Le.elim (fun _=>?_) fun _=>?_ | exact Le.of rfl)) h
theorem yf.e (k:Nat) (x:Tup (sigTys yf.hd)):fnK T0 (yf.env k) [] yf.C Tryz.f57 3 67 yf.hd yf.os x=yf.f k x.1 x.2.1 x.2.2.1 x.2.2.2:=by kernel_rfl
def yf.fn (k:Nat):Kn P0 G0:=⟨57,3,67,yf.hd,1,yf.os,fun x=>yf.f k x.1 x.2.1 x.2.2.1 x.2.2.2,contract (T:=T0) (fn:=Tryz.f57) hm0 hT0 (by kernel_rfl) (by kernel_rfl) (L:=[]) (C:=yf.C) (by kernel_rfl) (by decide) rfl (by kernel_rfl) (loops_fn yf.d trivial) (yf.e k),none⟩
def xA.hd:Sig:=[⟨false,0,(.imm (.int .i64))⟩,⟨false,1,(.imm (.int .i64))⟩]
def xA.os:List Sig:=[[⟨false,0,(.imm .bool)⟩]]
def xA.C:List CutAt:=[]
def xA.env:List (Kn P0 G0):=[]
theorem xA.d:distN (loopIds (Tryz.f120.body.getD .skip) 0)=true:=by kernel_rfl
def xA.f (a0:Int) (a1:Int):Option Bool:=(bif (decide (a0 ≥ (IntKind.wrap .i64 ((0:Int) - a1)))) then (some (decide (a0 ≤ a1))) else (some false))
theorem xA.e (x:Tup (sigTys xA.hd)):fnK T0 xA.env [] xA.C Tryz.f120 2 28 xA.hd xA.os x=xA.f x.1 x.2:=by kernel_rfl
def xA.fn:Kn P0 G0:=⟨120,2,28,xA.hd,1,xA.os,fun x=>xA.f x.1 x.2,contract (T:=T0) (fn:=Tryz.f120) hm0 hT0 (by kernel_rfl) (by kernel_rfl) (L:=[]) (C:=xA.C) (by kernel_rfl) (by decide) rfl (by kernel_rfl) (loops_fn xA.d trivial) (xA.e),none⟩
def yD.hd:Sig:=[⟨false,0,(.imm api_Rat)⟩]
def yD.os:List Sig:=[[⟨false,0,(.agg api_Rat (.acons (.agg api_Int (.acons (.imm .bool) (.acons (.imm (.list (.int .u32))) .anil))) (.acons (.imm (.list (.int .u32))) .anil)))⟩,⟨false,1,(.imm (.int .i64))⟩]]
def yD.C:List CutAt:=[]
def yD.env (k:Nat):List (Kn P0 G0):=[yx.fn k,xq.fn k]
theorem yD.d:distN (loopIds (Tryz.f121.body.getD .skip) 0)=true:=by kernel_rfl
def yD.b (c0:Int→Option (Bool × LI × LI)) (c1:RA→RA→Option (Bool × LI × LI × Int)) (a0:RA):Option (Bool × LI × LI × Int):=(Option.bind (c0 (1:Int)) fun y2=>(Option.bind (c1 ((y2.1,(y2.2.1,())),(y2.2.2,())) a0) fun y3=>(some (y3.1,(y3.2.1,(y3.2.2.1,y3.2.2.2))))))
def yD.f (k:Nat) a0:=yD.b (yx.f k) (xq.f k) a0
noncomputable def yD.V a0:=lim fun k=>yD.f k a0
theorem yD.v a0 {y} (h:yD.b yx.V xq.V a0=some y):yD.V a0=some y:=Le.v (by unfold yD.f yD.b;repeat (first | with_reducible first | exact Le.const | refine Le.bind ?_ fun _=>?_ | refine Le.cond ?_ ?_ | refine Le.elim (fun _=>?_) fun _=>?_ | exact Le.of rfl)) h
theorem yD.e (k:Nat) (x:Tup (sigTys yD.hd)):fnK T0 (yD.env k) [] yD.C Tryz.f121 1 18 yD.hd yD.os x=yD.f k x:=by kernel_rfl
def yD.fn (k:Nat):Kn P0 G0:=⟨121,1,18,yD.hd,2,yD.os,fun x=>yD.f k x,contract (T:=T0) (fn:=Tryz.f121) hm0 hT0 (by kernel_rfl) (by kernel_rfl) (L:=[]) (C:=yD.C) (by kernel_rfl) (by decide) rfl (by kernel_rfl) (loops_fn yD.d trivial) (yD.e k),none⟩
def xz.hd:Sig:=[⟨false,0,(.imm (.list (.int .u32)))⟩]
def xz.os:List Sig:=[[⟨false,0,(.imm (.int .i64))⟩]]
def xz.C:List CutAt:=[]
def xz.env (k:Nat):List (Kn P0 G0):=[zT.fn k,yJ.fn]
theorem xz.d:distN (loopIds (Tryz.f156.body.getD .skip) 0)=true:=by kernel_rfl
def xz.b (c0:LI→Option Int) (a0:LI):Option Int:=(Option.bind (c0 a0) fun y2=>(bif (y2 == (0:Int)) then (some (0:Int)) else (bif (decide (((0:Int) ≤ (IntKind.wrap .i64 (y2 - (1:Int))))∧((IntKind.wrap .i64 (y2 - (1:Int))) < (((List.length a0):Nat):Int)))) then (Option.bind (yJ.f (rdL (0:Int) a0 (IntKind.wrap .i64 (y2 - (1:Int))))) fun y3=>(some (IntKind.wrap .i64 ((IntKind.wrap .i64 ((32:Int) * (IntKind.wrap .i64 (y2 - (1:Int))))) + y3)))) else none)))
def xz.f (k:Nat) a0:=xz.b (zT.f k) a0
noncomputable def xz.V a0:=lim fun k=>xz.f k a0
theorem xz.v a0 {y} (h:xz.b zT.V a0=some y):xz.V a0=some y:=Le.v (by unfold xz.f xz.b;repeat (first | with_reducible first | exact Le.const | refine Le.bind ?_ fun _=>?_ | refine Le.cond ?_ ?_ | refine Le.elim (fun _=>?_) fun _=>?_ | exact Le.of rfl)) h
theorem xz.e (k:Nat) (x:Tup (sigTys xz.hd)):fnK T0 (xz.env k) [] xz.C Tryz.f156 1 36 xz.hd xz.os x=xz.f k x:=by kernel_rfl
def xz.fn (k:Nat):Kn P0 G0:=⟨156,1,36,xz.hd,1,xz.os,fun x=>xz.f k x,contract (T:=T0) (fn:=Tryz.f156) hm0 hT0 (by kernel_rfl) (by kernel_rfl) (L:=[]) (C:=xz.C) (by kernel_rfl) (by decide) rfl (by kernel_rfl) (loops_fn xz.d trivial) (xz.e k),none⟩
def xW.hd:Sig:=[⟨false,0,(.imm (.list (.int .u32)))⟩,⟨false,1,(.imm (.int .i64))⟩]
def xW.os:List Sig:=[[⟨false,0,(.imm .bool)⟩]]
def xW.C:List CutAt:=[⟨1000001,[(.normal,[⟨false,4,(.imm .bool)⟩])]⟩]
def xW.env:List (Kn P0 G0):=[]
theorem xW.d:distN (loopIds (Tryz.f157.body.getD .skip) 0)=true:=by kernel_rfl
def xW.f (a0:LI) (a1:Int):Option Bool:=(Option.bind (bif (decide (a1 ≥ (0:Int))) then (bif (decide ((IntKind.wrap .i64 (Int.tdiv a1 (32:Int))) < (((List.length a0):Nat):Int))) then (bif (decide (((0:Int) ≤ (IntKind.wrap .i64 (Int.tdiv a1 (32:Int))))∧((IntKind.wrap .i64 (Int.tdiv a1 (32:Int))) < (((List.length a0):Nat):Int)))) then (bif (decide ((Int.tmod a1 (32:Int)) < (0:Int))) then none else (some ((band .u32 (shrI .u32 (rdL (0:Int) a0 (IntKind.wrap .i64 (Int.tdiv a1 (32:Int)))) (Int.tmod a1 (32:Int))) (1:Int)) == (1:Int)))) else none) else (some false)) else (some false)) fun y2=>(some y2))
theorem xW.e (x:Tup (sigTys xW.hd)):fnK T0 xW.env [] xW.C Tryz.f157 2 52 xW.hd xW.os x=xW.f x.1 x.2:=by kernel_rfl
def xW.fn:Kn P0 G0:=⟨157,2,52,xW.hd,1,xW.os,fun x=>xW.f x.1 x.2,contract (T:=T0) (fn:=Tryz.f157) hm0 hT0 (by kernel_rfl) (by kernel_rfl) (L:=[]) (C:=xW.C) (by kernel_rfl) (by decide) rfl (by kernel_rfl) (loops_fn xW.d trivial) (xW.e),none⟩
def yi.hd:Sig:=[⟨false,0,(.imm (.list (.int .u32)))⟩,⟨false,1,(.imm (.int .i64))⟩]
def yi.os:List Sig:=[[⟨false,0,.nilS⟩,⟨false,1,(.imm .bool)⟩],[⟨false,0,(.own 11 false 111 (.int .u32))⟩,⟨false,1,(.imm .bool)⟩]]
def yi.h0:Sig:=[⟨false,0,(.imm (.list (.int .u32)))⟩,⟨false,6,(.own 11 false 111 (.int .u32))⟩,⟨false,7,(.own 14 false 111 (.int .u32))⟩,⟨false,8,(.imm (.int .i64))⟩]
def yi.o0:Outs:=[((.exit 0),[⟨false,6,(.own 11 false 111 (.int .u32))⟩]),(.ret,[⟨false,4,.nilS⟩,⟨false,5,(.imm .bool)⟩])]
def yi.C:List CutAt:=[]
def yi.env (k:Nat):List (Kn P0 G0):=[xn.fn k,xz.fn k,zA.fn k,xW.fn]
theorem yi.d:distN (loopIds (Tryz.f122.body.getD .skip) 0)=true:=by kernel_rfl
def yi.b0 (c0:LI→LI→Option LI) (c1:LI→LI→LI→Int→Option (LI ⊕ Bool)) (x0:LI) (x1:LI) (x2:LI) (x3:Int):Option (LI ⊕ Bool):=(bif (decide (x3 ≥ (0:Int))) then (Option.bind (c0 x1 x1) fun y6=>(bif (decide ((((List.length y6):Nat):Int) > (256:Int))) then (some (Sum.inr false)) else (Option.bind (xW.f x2 x3) fun y7=>(bif (!y7) then (c1 x0 y6 x2 (IntKind.wrap .i64 (x3 - (1:Int)))) else (Option.bind (c0 y6 x0) fun y8=>(bif (decide ((((List.length y8):Nat):Int) > (256:Int))) then (some (Sum.inr false)) else (c1 x0 y8 x2 (IntKind.wrap .i64 (x3 - (1:Int)))))))))) else (some (Sum.inl x1)))
def yi.l0:Nat→LI→LI→LI→Int→Option (LI ⊕ Bool)
 | 0,_,_,_,_=>none
 | k + 1,x0,x1,x2,x3=>yi.b0 (zA.f k) (yi.l0 k) x0 x1 x2 x3
noncomputable def yi.V0 x0 x1 x2 x3:=lim fun k=>yi.l0 k x0 x1 x2 x3
theorem yi.v0 x0 x1 x2 x3 {y} (h:yi.b0 zA.V yi.V0 x0 x1 x2 x3=some y):yi.V0 x0 x1 x2 x3=some y:=Le.v (.succ (by unfold yi.l0 yi.b0;repeat (first | with_reducible first | exact Le.const | refine Le.bind ?_ fun _=>?_ | refine Le.cond ?_ ?_ | refine Le.elim (fun _=>?_) fun _=>?_ | exact Le.of rfl))) h
def yi.L0 (k:Nat):LFn:=⟨yi.h0,yi.o0,fun x=>yi.l0 k x.1 x.2.1 x.2.2.1 x.2.2.2⟩
theorem yi.r0 (k:Nat) (x:Tup (sigTys yi.h0)):roundK T0 (yi.env k) 39 78 [] yi.C (loopOf Tryz.f122 0) 0 yi.h0 yi.o0 (yi.L0 k).f x=(yi.L0 (k + 1)).f x:=by kernel_rfl
theorem yi.s0 (k:Nat):LoopSound P0 G0 39 78 (sigPins yi.hd) (yi.L0 k) (loopOf Tryz.f122 0):=loop_rounds (T:=T0) hm0 hT0 (env:=fun k=>(yi.env k)) (nh:=78) (pn:=sigPins yi.hd) (L:=fun k=>[]) (C:=yi.C) (by kernel_rfl) (hd:=yi.h0) (os:=yi.o0) (by kernel_rfl) (by kernel_rfl) (by kernel_rfl) (g:=fun k=>(yi.L0 k).f) (fun k=>loops_in yi.d trivial) (fun _=>rfl) (fun k x=>yi.r0 k x) k
def yi.b (c0:Int→Option LI) (c1:LI→Option Int) (c2:LI→LI→LI→Int→Option (LI ⊕ Bool)) (a0:LI) (a1:Int):Option (Bool ⊕ (LI × Bool)):=(bif (decide (a1 < (0:Int))) then (some (Sum.inl false)) else (Option.bind (c0 (1:Int)) fun y3=>(Option.bind (c0 (IntKind.wrap .u64 a1)) fun y4=>(Option.bind (c1 y4) fun y5=>(Option.bind (c2 a0 (y3,(y4,(IntKind.wrap .i64 (y5 - (1:Int))))).1 (y3,(y4,(IntKind.wrap .i64 (y5 - (1:Int))))).2.1 (y3,(y4,(IntKind.wrap .i64 (y5 - (1:Int))))).2.2) fun y6=>(Sum.elim (fun y7=>(some (Sum.inr (y7,true)))) (fun y7=>(some (Sum.inl y7))) y6))))))
def yi.f (k:Nat) a0 a1:=yi.b (xn.f k) (xz.f k) (yi.l0 k) a0 a1
noncomputable def yi.V a0 a1:=lim fun k=>yi.f k a0 a1
theorem yi.v a0 a1 {y} (h:yi.b xn.V xz.V yi.V0 a0 a1=some y):yi.V a0 a1=some y:=Le.v (by unfold yi.f yi.b;repeat (first | with_reducible first | exact Le.const | refine Le.bind ?_ fun _=>?_ | refine Le.cond ?_ ?_ | refine Le.elim (fun _=>?_) fun _=>?_ | exact Le.of rfl)) h
theorem yi.e (k:Nat) (x:Tup (sigTys yi.hd)):fnK T0 (yi.env k) [⟨0,yi.L0 k⟩] yi.C Tryz.f122 2 78 yi.hd yi.os x=yi.f k x.1 x.2:=by kernel_rfl
def yi.fn (k:Nat):Kn P0 G0:=⟨122,2,78,yi.hd,2,yi.os,fun x=>yi.f k x.1 x.2,contract (T:=T0) (fn:=Tryz.f122) hm0 hT0 (by kernel_rfl) (by kernel_rfl) (L:=[⟨0,yi.L0 k⟩]) (C:=yi.C) (by kernel_rfl) (by decide) rfl (by kernel_rfl) (loops_fn yi.d ⟨yi.s0 k,trivial⟩) (yi.e k),none⟩
def yv.hd:Sig:=[⟨false,0,(.imm api_Rat)⟩,⟨false,1,(.imm (.int .i64))⟩]
def yv.os:List Sig:=[[⟨false,0,(.imm api_Rat)⟩,⟨false,1,(.imm (.int .i64))⟩]]
def yv.C:List CutAt:=[]
def yv.env (rec_power_Of:RA→Int→Option (RA × Int)) (hrec_power_Of:Contract P0 G0 81 2 174 yv.hd 2 yv.os (fun x=>rec_power_Of x.1 x.2)) (k:Nat):List (Kn P0 G0):=[yu.fn k,xA.fn,yx.fn k,yD.fn k,yi.fn k,xo.fn k,⟨81,2,174,yv.hd,2,yv.os,fun x=>rec_power_Of x.1 x.2,hrec_power_Of,none⟩]
theorem yv.d:distN (loopIds (Tryz.f81.body.getD .skip) 0)=true:=by kernel_rfl
def yv.b (c0:RA→Option Bool) (c1:Int→Option (Bool × LI × LI)) (c2:RA→Option (Bool × LI × LI × Int)) (c3:LI→Int→Option (Bool ⊕ (LI × Bool))) (c4:WH→LI→Option (RA × Int)) (rec_power_Of:RA→Int→Option (RA × Int)) (a0:RA) (a1:Int):Option (RA × Int):=(Option.bind (c0 a0) fun y5=>(bif (!y5) then (some (((false,(([]:LI),())),(([]:LI),())),(1:Int))) else (Option.bind (xA.f a1 (128:Int)) fun y6=>(bif (!y6) then (some (((false,(([]:LI),())),(([]:LI),())),(2:Int))) else (bif (a1 == (0:Int)) then (Option.bind (c1 (1:Int)) fun y7=>(some (((y7.1,(y7.2.1,())),(y7.2.2,())),(0:Int)))) else (bif (decide (a1 < (0:Int))) then (Option.bind (c2 a0) fun y7=>(bif (y7.2.2.2 != (0:Int)) then (some (((false,(([]:LI),())),(([]:LI),())),y7.2.2.2)) else (Option.bind (rec_power_Of ((y7.1,(y7.2.1,())),(y7.2.2.1,())) (IntKind.wrap .i64 ((0:Int) - a1))) fun y8=>(some (y8.1,y8.2))))) else (Option.bind (c3 a0.1.2.1 a1) fun y7=>(Sum.elim (fun y8=>(Option.bind (c3 a0.2.1 a1) fun y9=>(Sum.elim (fun y10=>(bif (!y8) then (some (((false,(([]:LI),())),(([]:LI),())),(2:Int))) else (bif (!y10) then (some (((false,(([]:LI),())),(([]:LI),())),(2:Int))) else (bif a0.1.1 then (Option.bind (c4 (((Int.tmod a1 (2:Int)) == (1:Int)),(([]:LI),())) (copyL ([]:LI) (List.replicate (Int.toNat (0:Int)) (0:Int)))) fun y11=>(some (y11.1,y11.2))) else (Option.bind (c4 (false,(([]:LI),())) (copyL ([]:LI) (List.replicate (Int.toNat (0:Int)) (0:Int)))) fun y11=>(some (y11.1,y11.2))))))) (fun y10=>(bif (!y8) then (some (((false,(([]:LI),())),(([]:LI),())),(2:Int))) else (bif (!y10.2) then (some (((false,(([]:LI),())),(([]:LI),())),(2:Int))) else (bif (decide (((0:Int) ≤ (((List.length y10.1):Nat):Int))∧(((((List.length y10.1):Nat):Int) ≤ (((List.length y10.1):Nat):Int))∧((((List.length y10.1):Nat):Int) ≤ ((68719476736:Nat):Int))))) then (bif a0.1.1 then (Option.bind (c4 (((Int.tmod a1 (2:Int)) == (1:Int)),(([]:LI),())) (copyL y10.1 (List.replicate (Int.toNat (((List.length y10.1):Nat):Int)) (0:Int)))) fun y11=>(some (y11.1,y11.2))) else (Option.bind (c4 (false,(([]:LI),())) (copyL y10.1 (List.replicate (Int.toNat (((List.length y10.1):Nat):Int)) (0:Int)))) fun y11=>(some (y11.1,y11.2)))) else none)))) y9))) (fun y8=>(Option.bind (c3 a0.2.1 a1) fun y9=>(Sum.elim (fun y10=>(bif (!y8.2) then (some (((false,(([]:LI),())),(([]:LI),())),(2:Int))) else (bif (!y10) then (some (((false,(([]:LI),())),(([]:LI),())),(2:Int))) else (bif a0.1.1 then (Option.bind (c4 (((Int.tmod a1 (2:Int)) == (1:Int)),(y8.1,())) (copyL ([]:LI) (List.replicate (Int.toNat (0:Int)) (0:Int)))) fun y11=>(some (y11.1,y11.2))) else (Option.bind (c4 (false,(y8.1,())) (copyL ([]:LI) (List.replicate (Int.toNat (0:Int)) (0:Int)))) fun y11=>(some (y11.1,y11.2))))))) (fun y10=>(bif (!y8.2) then (some (((false,(([]:LI),())),(([]:LI),())),(2:Int))) else (bif (!y10.2) then (some (((false,(([]:LI),())),(([]:LI),())),(2:Int))) else (bif (decide (((0:Int) ≤ (((List.length y10.1):Nat):Int))∧(((((List.length y10.1):Nat):Int) ≤ (((List.length y10.1):Nat):Int))∧((((List.length y10.1):Nat):Int) ≤ ((68719476736:Nat):Int))))) then (bif a0.1.1 then (Option.bind (c4 (((Int.tmod a1 (2:Int)) == (1:Int)),(y8.1,())) (copyL y10.1 (List.replicate (Int.toNat (((List.length y10.1):Nat):Int)) (0:Int)))) fun y11=>(some (y11.1,y11.2))) else (Option.bind (c4 (false,(y8.1,())) (copyL y10.1 (List.replicate (Int.toNat (((List.length y10.1):Nat):Int)) (0:Int)))) fun y11=>(some (y11.1,y11.2)))) else none)))) y9))) y7))))))))
def yv.F (rec_power_Of:RA→Int→Option (RA × Int)) (k:Nat) (a0:RA) (a1:Int):Option (RA × Int):=yv.b (yu.f k) (yx.f k) (yD.f k) (yi.f k) (xo.f k) rec_power_Of a0 a1
theorem yv.e (rec_power_Of:RA→Int→Option (RA × Int)) (hrec_power_Of:Contract P0 G0 81 2 174 yv.hd 2 yv.os (fun x=>rec_power_Of x.1 x.2)) (k:Nat) (x:Tup (sigTys yv.hd)):fnK T0 (yv.env rec_power_Of hrec_power_Of k) [] yv.C Tryz.f81 2 174 yv.hd yv.os x=yv.F rec_power_Of k x.1 x.2:=by kernel_rfl
def yv.all:Nat→(RA→Int→Option (RA × Int))
 | 0=>fun _ _=>none
 | k + 1=>yv.F (yv.all k) k
def yv.f (k:Nat):RA→Int→Option (RA × Int):=(yv.all k)
noncomputable def yv.V a0 a1:=lim fun k=>yv.f k a0 a1
theorem yv.v a0 a1 {y} (h:yv.b yu.V yx.V yD.V yi.V xo.V yv.V a0 a1=some y):yv.V a0 a1=some y:=Le.v (.succ (by show Le _ fun k=>yv.F (yv.f k) k a0 a1;unfold yv.F yv.b;repeat (first | with_reducible first | exact Le.const | refine Le.bind ?_ fun _=>?_ | refine Le.cond ?_ ?_ | refine Le.elim (fun _=>?_) fun _=>?_ | exact Le.of rfl))) h
theorem yv.c:∀ k,Contract P0 G0 81 2 174 yv.hd 2 yv.os (fun x=>yv.f k x.1 x.2)
 | 0=>⟨by kernel_rfl,fun _ _ _ _ _ _ _ _ _ h=>by cases h⟩
 | k + 1=>contract (T:=T0) (fn:=Tryz.f81) hm0 hT0 (by kernel_rfl) (by kernel_rfl) (env:=yv.env (yv.f k) (yv.c k) k) (L:=[]) (C:=yv.C) (by kernel_rfl) (by decide) rfl (by kernel_rfl) (loops_fn yv.d trivial) (yv.e (yv.f k) (yv.c k) k)
def yv.fn (k:Nat):Kn P0 G0:=⟨81,2,174,yv.hd,2,yv.os,fun x=>yv.f k x.1 x.2,(yv.c k),none⟩
def zm.hd:Sig:=[⟨true,154,(.agg simple_maker (.acons (.own 152 false 42 api_Term) (.acons (.mp 153 simple_face (.int .i64)) .anil)))⟩,⟨false,0,(.ptr 154 [] simple_maker)⟩,⟨false,1,(.imm (.int .i64))⟩,⟨false,2,(.imm (.int .i64))⟩]
def zm.os:List Sig:=[[⟨true,154,(.agg simple_maker (.acons (.own 152 false 42 api_Term) (.acons (.mp 153 simple_face (.int .i64)) .anil)))⟩,⟨false,0,(.imm (.int .i64))⟩]]
def zm.C:List CutAt:=[⟨1000012,[(.normal,[⟨true,154,(.agg simple_maker (.acons (.own 152 false 42 api_Term) (.acons (.mp 153 simple_face (.int .i64)) .anil)))⟩,⟨true,11,(.imm api_Term)⟩,⟨false,0,(.ptr 154 [] simple_maker)⟩,⟨false,1,(.imm (.int .i64))⟩,⟨false,2,(.imm (.int .i64))⟩,⟨false,11,(.ptr 11 [] api_Term)⟩,⟨false,62,(.imm .bool)⟩])]⟩,⟨11,[(.normal,[⟨true,154,(.agg simple_maker (.acons (.own 152 false 42 api_Term) (.acons (.mp 153 simple_face (.int .i64)) .anil)))⟩,⟨false,0,(.ptr 154 [] simple_maker)⟩,⟨false,1,(.imm (.int .i64))⟩,⟨false,2,(.imm (.int .i64))⟩]),(.ret,[⟨true,154,(.agg simple_maker (.acons (.own 152 false 42 api_Term) (.acons (.mp 153 simple_face (.int .i64)) .anil)))⟩,⟨false,6,(.imm (.int .i64))⟩])]⟩]
def zm.env (rec_simple_maker_pow:CO→MP→Int→Int→Option (CO × MP × Int)) (hrec_simple_maker_pow:Contract P0 G0 58 3 155 zm.hd 1 zm.os (fun x=>rec_simple_maker_pow x.1 x.2.1 x.2.2.1 x.2.2.2)) (k:Nat):List (Kn P0 G0):=[yx.fn k,zk.fn k,zD.fn,yv.fn k,zl.fn k,⟨58,3,155,zm.hd,1,zm.os,fun x=>rec_simple_maker_pow x.1 x.2.1 x.2.2.1 x.2.2.2,hrec_simple_maker_pow,none⟩]
theorem zm.d:distN (loopIds (Tryz.f58.body.getD .skip) 0)=true:=by kernel_rfl
def zm.b (c0:Int→Option (Bool × LI × LI)) (c1:CO→MP→RA→Option (CO × MP × Int)) (c2:RA→Int→Option (RA × Int)) (c3:CO→MP→TE→Option (CO × MP × Int)) (rec_simple_maker_pow:CO→MP→Int→Int→Option (CO × MP × Int)) (a0:CO) (a1:MP) (a2:Int) (a3:Int):Option (CO × MP × Int):=(bif (a3 == (0:Int)) then (Option.bind (c0 (1:Int)) fun y7=>(Option.bind (c1 a0 (a1,((y7.1,(y7.2.1,())),(y7.2.2,()))).1 (a1,((y7.1,(y7.2.1,())),(y7.2.2,()))).2) fun y8=>(some (y8.1,(y8.2.1,y8.2.2))))) else (bif (a3 == (1:Int)) then (some (a0,(a1,a2))) else (Option.bind (Option.bind (zD.f a0 (a1,a2).1 (a1,a2).2) fun y7=>(bif y7.2.2.2 then (Option.bind (c2 y7.2.2.1 a3) fun y8=>(bif (y8.2 == (0:Int)) then (Option.bind (c1 y7.1 (y7.2.1,y8.1).1 (y7.2.1,y8.1).2) fun y9=>(some (Sum.inr (y9.1,(y9.2.1,y9.2.2))))) else (some (Sum.inl (y7.1,(y7.2.1,(a2,a3))))))) else (some (Sum.inl (y7.1,(y7.2.1,(a2,a3))))))) fun y7=>(Sum.elim (fun y8=>(bif (decide (((0:Int) ≤ y8.2.2.1)∧(y8.2.2.1 < (((List.length y8.1):Nat):Int)))) then (Option.bind (bif ((rdL (Ty.zero api_Term) y8.1 y8.2.2.1).1 == (8:Int)) then (bif (decide ((IntKind.wrap .i64 ((rdL (Ty.zero api_Term) y8.1 y8.2.2.1).2.2.2.1 * y8.2.2.2)) ≥ (-(128:Int)))) then (some (y8.1,(y8.2.1,((rdL (Ty.zero api_Term) y8.1 y8.2.2.1),(y8.2.2.1,(y8.2.2.2,(decide ((IntKind.wrap .i64 ((rdL (Ty.zero api_Term) y8.1 y8.2.2.1).2.2.2.1 * y8.2.2.2)) ≤ (128:Int))))))))) else (some (y8.1,(y8.2.1,((rdL (Ty.zero api_Term) y8.1 y8.2.2.1),(y8.2.2.1,(y8.2.2.2,false))))))) else (some (y8.1,(y8.2.1,((rdL (Ty.zero api_Term) y8.1 y8.2.2.1),(y8.2.2.1,(y8.2.2.2,false))))))) fun y9=>(bif y9.2.2.2.2.2 then (Option.bind (rec_simple_maker_pow y9.1 (y9.2.1,(y9.2.2.1.2.1,(IntKind.wrap .i64 (y9.2.2.1.2.2.2.1 * y9.2.2.2.2.1)))).1 (y9.2.1,(y9.2.2.1.2.1,(IntKind.wrap .i64 (y9.2.2.1.2.2.2.1 * y9.2.2.2.2.1)))).2.1 (y9.2.1,(y9.2.2.1.2.1,(IntKind.wrap .i64 (y9.2.2.1.2.2.2.1 * y9.2.2.2.2.1)))).2.2) fun y10=>(some (y10.1,(y10.2.1,y10.2.2)))) else (Option.bind (c3 y9.1 (y9.2.1,((8:Int),(y9.2.2.2.1,((0:Int),(y9.2.2.2.2.1,(((false,(([]:LI),())),(([]:LI),())),())))))).1 (y9.2.1,((8:Int),(y9.2.2.2.1,((0:Int),(y9.2.2.2.2.1,(((false,(([]:LI),())),(([]:LI),())),())))))).2) fun y10=>(some (y10.1,(y10.2.1,y10.2.2)))))) else none)) (fun y8=>(some (y8.1,(y8.2.1,y8.2.2)))) y7))))
def zm.F (rec_simple_maker_pow:CO→MP→Int→Int→Option (CO × MP × Int)) (k:Nat) (a0:CO) (a1:MP) (a2:Int) (a3:Int):Option (CO × MP × Int):=zm.b (yx.f k) (zk.f k) (yv.f k) (zl.f k) rec_simple_maker_pow a0 a1 a2 a3
theorem zm.e (rec_simple_maker_pow:CO→MP→Int→Int→Option (CO × MP × Int)) (hrec_simple_maker_pow:Contract P0 G0 58 3 155 zm.hd 1 zm.os (fun x=>rec_simple_maker_pow x.1 x.2.1 x.2.2.1 x.2.2.2)) (k:Nat) (x:Tup (sigTys zm.hd)):fnK T0 (zm.env rec_simple_maker_pow hrec_simple_maker_pow k) [] zm.C Tryz.f58 3 155 zm.hd zm.os x=zm.F rec_simple_maker_pow k x.1 x.2.1 x.2.2.1 x.2.2.2:=by kernel_rfl
def zm.all:Nat→(CO→MP→Int→Int→Option (CO × MP × Int))
 | 0=>fun _ _ _ _=>none
 | k + 1=>zm.F (zm.all k) k
def zm.f (k:Nat):CO→MP→Int→Int→Option (CO × MP × Int):=(zm.all k)
noncomputable def zm.V a0 a1 a2 a3:=lim fun k=>zm.f k a0 a1 a2 a3
theorem zm.v a0 a1 a2 a3 {y} (h:zm.b yx.V zk.V yv.V zl.V zm.V a0 a1 a2 a3=some y):zm.V a0 a1 a2 a3=some y:=Le.v (.succ (by show Le _ fun k=>zm.F (zm.f k) k a0 a1 a2 a3;unfold zm.F zm.b;repeat (first | with_reducible first | exact Le.const | refine Le.bind ?_ fun _=>?_ | refine Le.cond ?_ ?_ | refine Le.elim (fun _=>?_) fun _=>?_ | exact Le.of rfl))) h
theorem zm.c:∀ k,Contract P0 G0 58 3 155 zm.hd 1 zm.os (fun x=>zm.f k x.1 x.2.1 x.2.2.1 x.2.2.2)
 | 0=>⟨by kernel_rfl,fun _ _ _ _ _ _ _ _ _ h=>by cases h⟩
 | k + 1=>contract (T:=T0) (fn:=Tryz.f58) hm0 hT0 (by kernel_rfl) (by kernel_rfl) (env:=zm.env (zm.f k) (zm.c k) k) (L:=[]) (C:=zm.C) (by kernel_rfl) (by decide) rfl (by kernel_rfl) (loops_fn zm.d trivial) (zm.e (zm.f k) (zm.c k) k)
def zm.fn (k:Nat):Kn P0 G0:=⟨58,3,155,zm.hd,1,zm.os,fun x=>zm.f k x.1 x.2.1 x.2.2.1 x.2.2.2,(zm.c k),none⟩
def zF.hd:Sig:=[⟨true,190,(.agg simple_maker (.acons (.own 188 false 42 api_Term) (.acons (.mp 189 simple_face (.int .i64)) .anil)))⟩,⟨false,0,(.ptr 190 [] simple_maker)⟩,⟨false,1,(.imm api_Term)⟩,⟨false,2,(.imm (.list (.int .i64)))⟩]
def zF.os:List Sig:=[[⟨true,190,(.agg simple_maker (.acons (.own 188 false 42 api_Term) (.acons (.mp 189 simple_face (.int .i64)) .anil)))⟩,⟨false,0,(.imm (.int .i64))⟩]]
def zF.C:List CutAt:=[]
def zF.env (k:Nat):List (Kn P0 G0):=[zk.fn k,yc.fn k,zV.fn k,zW.fn k,zd.fn k,yf.fn k,zm.fn k,zl.fn k]
theorem zF.d:distN (loopIds (Tryz.f27.body.getD .skip) 0)=true:=by kernel_rfl
def zF.b (c0:CO→MP→RA→Option (CO × MP × Int)) (c1:CO→MP→Int→Option (CO × MP × Int)) (c2:CO→MP→Int→Int→Option (CO × MP × Int)) (c3:CO→MP→Int→Int→Option (CO × MP × Int)) (c4:CO→MP→Int→Int→Option (CO × MP × Int)) (c5:CO→MP→Int→Int→Option (CO × MP × Int)) (c6:CO→MP→Int→Int→Option (CO × MP × Int)) (c7:CO→MP→TE→Option (CO × MP × Int)) (a0:CO) (a1:MP) (a2:TE) (a3:LI):Option (CO × MP × Int):=(bif (a2.1 == (1:Int)) then (Option.bind (c0 a0 (a1,a2.2.2.2.2.1).1 (a1,a2.2.2.2.2.1).2) fun y5=>(some (y5.1,(y5.2.1,y5.2.2)))) else (bif (a2.1 == (7:Int)) then (bif (decide (((0:Int) ≤ a2.2.1)∧(a2.2.1 < (((List.length a3):Nat):Int)))) then (Option.bind (c1 a0 (a1,(rdL (0:Int) a3 a2.2.1)).1 (a1,(rdL (0:Int) a3 a2.2.1)).2) fun y5=>(some (y5.1,(y5.2.1,y5.2.2)))) else none) else (bif (a2.1 == (3:Int)) then (bif (decide (((0:Int) ≤ a2.2.1)∧(a2.2.1 < (((List.length a3):Nat):Int)))) then (bif (decide (((0:Int) ≤ a2.2.2.1)∧(a2.2.2.1 < (((List.length a3):Nat):Int)))) then (Option.bind (c2 a0 (a1,((rdL (0:Int) a3 a2.2.1),(rdL (0:Int) a3 a2.2.2.1))).1 (a1,((rdL (0:Int) a3 a2.2.1),(rdL (0:Int) a3 a2.2.2.1))).2.1 (a1,((rdL (0:Int) a3 a2.2.1),(rdL (0:Int) a3 a2.2.2.1))).2.2) fun y5=>(some (y5.1,(y5.2.1,y5.2.2)))) else none) else none) else (bif (a2.1 == (4:Int)) then (bif (decide (((0:Int) ≤ a2.2.1)∧(a2.2.1 < (((List.length a3):Nat):Int)))) then (bif (decide (((0:Int) ≤ a2.2.2.1)∧(a2.2.2.1 < (((List.length a3):Nat):Int)))) then (Option.bind (c3 a0 (a1,((rdL (0:Int) a3 a2.2.1),(rdL (0:Int) a3 a2.2.2.1))).1 (a1,((rdL (0:Int) a3 a2.2.1),(rdL (0:Int) a3 a2.2.2.1))).2.1 (a1,((rdL (0:Int) a3 a2.2.1),(rdL (0:Int) a3 a2.2.2.1))).2.2) fun y5=>(some (y5.1,(y5.2.1,y5.2.2)))) else none) else none) else (bif (a2.1 == (5:Int)) then (bif (decide (((0:Int) ≤ a2.2.1)∧(a2.2.1 < (((List.length a3):Nat):Int)))) then (bif (decide (((0:Int) ≤ a2.2.2.1)∧(a2.2.2.1 < (((List.length a3):Nat):Int)))) then (Option.bind (c4 a0 (a1,((rdL (0:Int) a3 a2.2.1),(rdL (0:Int) a3 a2.2.2.1))).1 (a1,((rdL (0:Int) a3 a2.2.1),(rdL (0:Int) a3 a2.2.2.1))).2.1 (a1,((rdL (0:Int) a3 a2.2.1),(rdL (0:Int) a3 a2.2.2.1))).2.2) fun y5=>(some (y5.1,(y5.2.1,y5.2.2)))) else none) else none) else (bif (a2.1 == (6:Int)) then (bif (decide (((0:Int) ≤ a2.2.1)∧(a2.2.1 < (((List.length a3):Nat):Int)))) then (bif (decide (((0:Int) ≤ a2.2.2.1)∧(a2.2.2.1 < (((List.length a3):Nat):Int)))) then (Option.bind (c5 a0 (a1,((rdL (0:Int) a3 a2.2.1),(rdL (0:Int) a3 a2.2.2.1))).1 (a1,((rdL (0:Int) a3 a2.2.1),(rdL (0:Int) a3 a2.2.2.1))).2.1 (a1,((rdL (0:Int) a3 a2.2.1),(rdL (0:Int) a3 a2.2.2.1))).2.2) fun y5=>(some (y5.1,(y5.2.1,y5.2.2)))) else none) else none) else (bif (a2.1 == (8:Int)) then (bif (decide (((0:Int) ≤ a2.2.1)∧(a2.2.1 < (((List.length a3):Nat):Int)))) then (Option.bind (c6 a0 (a1,((rdL (0:Int) a3 a2.2.1),a2.2.2.2.1)).1 (a1,((rdL (0:Int) a3 a2.2.1),a2.2.2.2.1)).2.1 (a1,((rdL (0:Int) a3 a2.2.1),a2.2.2.2.1)).2.2) fun y5=>(some (y5.1,(y5.2.1,y5.2.2)))) else none) else (Option.bind (c7 a0 (a1,a2).1 (a1,a2).2) fun y5=>(some (y5.1,(y5.2.1,y5.2.2)))))))))))
def zF.f (k:Nat) a0 a1 a2 a3:=zF.b (zk.f k) (yc.f k) (zV.f k) (zW.f k) (zd.f k) (yf.f k) (zm.f k) (zl.f k) a0 a1 a2 a3
noncomputable def zF.V a0 a1 a2 a3:=lim fun k=>zF.f k a0 a1 a2 a3
theorem zF.v a0 a1 a2 a3 {y} (h:zF.b zk.V yc.V zV.V zW.V zd.V yf.V zm.V zl.V a0 a1 a2 a3=some y):zF.V a0 a1 a2 a3=some y:=Le.v (by unfold zF.f zF.b;repeat (first | with_reducible first | exact Le.const | refine Le.bind ?_ fun _=>?_ | refine Le.cond ?_ ?_ | refine Le.elim (fun _=>?_) fun _=>?_ | exact Le.of rfl)) h
theorem zF.e (k:Nat) (x:Tup (sigTys zF.hd)):fnK T0 (zF.env k) [] zF.C Tryz.f27 3 191 zF.hd zF.os x=zF.f k x.1 x.2.1 x.2.2.1 x.2.2.2:=by kernel_rfl
def zF.fn (k:Nat):Kn P0 G0:=⟨27,3,191,zF.hd,1,zF.os,fun x=>zF.f k x.1 x.2.1 x.2.2.1 x.2.2.2,contract (T:=T0) (fn:=Tryz.f27) hm0 hT0 (by kernel_rfl) (by kernel_rfl) (L:=[]) (C:=zF.C) (by kernel_rfl) (by decide) rfl (by kernel_rfl) (loops_fn zF.d trivial) (zF.e k),none⟩
end
end Go.Proofs.YtlfcdmibknmjeaaGreatDoor.E
